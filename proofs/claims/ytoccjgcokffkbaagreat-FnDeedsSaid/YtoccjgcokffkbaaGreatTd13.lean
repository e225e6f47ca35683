/- Part 13 of the proof of FnDeeds: lemmas and contracts. -/
import Derived.Test.YtoccjgcokffkbaaGreatTd12
namespace Go.Proofs.YtoccjgcokffkbaaGreat
set_option linter.unusedVariables false
set_option linter.unusedSimpArgs false
set_option maxHeartbeats 20000000
section
open Go.RowKit
def smFit (z1 z2 : Int) (h : Hd) (k1 k2 : Nat) : Bool := decide ((k1 : Int) ≤ 512 - z1) && decide ((k2 : Int) ≤ 512 - z2) && !(h.num == 399)
def smOk (width z1 : Int) (l1 : List ByteArray) (z2 : Int) (l2 : List ByteArray) (h : Hd) (L T : List ByteArray) : Bool := ed width z1 l1 z2 l2 h && bE width L && bE width T && smFit z1 z2 h L.length T.length
def smCode (width z1 : Int) (l1 : List ByteArray) (z2 : Int) (l2 : List ByteArray) (h : Hd) (L T : List ByteArray) : Int :=
 if ed width z1 l1 z2 l2 h = false then 1 else if bE width L = false then 2 else if bE width T = false then 3 else if smFit z1 z2 h L.length T.length = false then 4 else 0
def smP (width z : Int) (l L : List ByteArray) : List ByteArray := ax width z.toNat l L L.length
def smL1 (width z1 : Int) (l1 : List ByteArray) (z2 : Int) (l2 : List ByteArray) (h : Hd) (L T : List ByteArray) : List ByteArray := if smOk width z1 l1 z2 l2 h L T then smP width z1 l1 L else []
def smL2 (width z1 : Int) (l1 : List ByteArray) (z2 : Int) (l2 : List ByteArray) (h : Hd) (L T : List ByteArray) : List ByteArray := if smOk width z1 l1 z2 l2 h L T then smP width z2 l2 T else []
def smZ1 (width z1 : Int) (l1 : List ByteArray) (z2 : Int) (l2 : List ByteArray) (h : Hd) (L T : List ByteArray) : Int := if smOk width z1 l1 z2 l2 h L T then z1 + L.length else 0
def smZ2 (width z1 : Int) (l1 : List ByteArray) (z2 : Int) (l2 : List ByteArray) (h : Hd) (L T : List ByteArray) : Int := if smOk width z1 l1 z2 l2 h L T then z2 + T.length else 0
def smH (width z1 : Int) (l1 : List ByteArray) (z2 : Int) (l2 : List ByteArray) (h : Hd) (L T : List ByteArray) : Hd :=
 if smOk width z1 l1 z2 l2 h L T then ⟨h.num + 1, z1 + L.length, aU width (smP width z1 l1 L), z2 + T.length, aU width (smP width z2 l2 T)⟩ else ⟨0, 0, ByteArray.empty, 0, ByteArray.empty⟩
def smN (width z1 : Int) (l1 : List ByteArray) (z2 : Int) (l2 : List ByteArray) (h : Hd) (L T : List ByteArray) : Int :=
 if smOk width z1 l1 z2 l2 h L T then ((aW z1.toNat L.length + aW z2.toNat T.length + aS (smP width z1 l1 L) + aS (smP width z2 l2 T) : Nat) : Int) else 0
theorem sealOk_all {width z1 z2 : Int} {l1 l2 : List ByteArray} {h : Hd} (hs : ed width z1 l1 z2 l2 h = true) : dH width z1 l1 = true ∧ dH width z2 l2 = true ∧ 0 ≤ h.num ∧ h.num ≤ 399 := by
 rw [ed, Bool.and_eq_true, Bool.and_eq_true, Bool.and_eq_true] at hs
 obtain ⟨⟨⟨h1, h2⟩, h3⟩, _⟩ := hs
 rw [bu, Bool.and_eq_true, Bool.and_eq_true, Bool.and_eq_true] at h3
 have := az.1 h3.1.1.2
 exact ⟨h1, h2, this.1, this.2⟩
theorem rng_grow {width z : Int} {l L : List ByteArray} (h : dH width z l = true) (ha : bE width L = true) (hk : (L.length : Int) ≤ 512 - z) :
  dH width (z + L.length) (smP width z l L) = true ∧ (smP width z l L).length ≤ 20 ∧ aW z.toNat L.length ≤ 10 * 512 := by
 obtain ⟨h1, h2, h3, h4, h5⟩ := bZ h
 have h7 : l.length = aO z.toNat := by rw [h3, ← popC_nat (by omega)]; congr 1; omega
 have h8 := bn (width := width) (leaves := L) h7 (k := L.length) (by omega)
 have h9 := df h5 h7 h4 ha (k := L.length) (by omega) (Nat.le_refl _)
 refine ⟨?_, ?_, ?_⟩
 ·rw [dH, Bool.and_eq_true, Bool.and_eq_true, Bool.and_eq_true]
  refine ⟨⟨az.2 ⟨by omega, by omega⟩, decide_eq_true ?_⟩, h9, h5⟩
  rw [smP, h8, ← popC_nat (by omega)]; congr 1; omega
 ·rw [smP, h8]
  have := dM (z.toNat + L.length) 10
  show popUp _ 10 ≤ _
  omega
 have := eF z.toNat L.length; omega
def SmPost (w : World) (z1 : Int) (l1 : List ByteArray) (z2 : Int) (l2 : List ByteArray) (h : Hd) (n code : Int) (e : Ending) (w' : World) : Prop :=
 ∃ (A1 : Option Addr) (c1 a1 b1 : Nat) (A2 : Option Addr) (c2 a2 b2 : Nat), e = .returned (.tuple #[.agg #[.int .i64 z1, .slice A1 l1.length c1, .int .i64 z2, .slice A2 l2.length c2, .int .i64 h.num, .int .i64 h.size, .string h.root, .int .i64 h.taken, .string h.troot], .int .i64 n, .int .i64 code]) ∧
   (w.heap.size ≤ a1 ∧ b1 ≤ w'.heap.size ∧ Own w' a1 b1 A1 (strs l1) ∧ (A1 = none → c1 = 0)) ∧ (w.heap.size ≤ a2 ∧ b2 ≤ w'.heap.size ∧ Own w' a2 b2 A2 (strs l2) ∧ (A2 = none → c2 = 0)) ∧ (b1 ≤ a2 ∨ b2 ≤ a1) ∧ Below w.heap.size w w'
def noHd : Hd := ⟨0, 0, ByteArray.empty, 0, ByteArray.empty⟩
theorem smBad_post {w w' : World} (hB : Below w.heap.size w w') (code : Int) :
  SmPost w 0 [] 0 [] noHd 0 code (.returned (.tuple #[.agg #[.int .i64 0, .slice none 0 0, .int .i64 0, .slice none 0 0, .int .i64 0, .int .i64 0, .string ⟨#[]⟩, .int .i64 0, .string ⟨#[]⟩], .int .i64 0, .int .i64 code])) w' :=
 ⟨none, 0, w'.heap.size, w'.heap.size, none, 0, w'.heap.size, w'.heap.size, rfl, ⟨hB.size, Nat.le_refl _, Own.nil, fun _ => rfl⟩, ⟨hB.size, Nat.le_refl _, Own.nil, fun _ => rfl⟩, .inl (Nat.le_refl _), hB⟩
theorem sm_bad {width z1 z2 : Int} {l1 l2 : List ByteArray} {h : Hd} {L T : List ByteArray} (hb : smOk width z1 l1 z2 l2 h L T = false) :
  smZ1 width z1 l1 z2 l2 h L T = 0 ∧ smL1 width z1 l1 z2 l2 h L T = [] ∧ smZ2 width z1 l1 z2 l2 h L T = 0 ∧ smL2 width z1 l1 z2 l2 h L T = [] ∧ smH width z1 l1 z2 l2 h L T = noHd ∧ smN width z1 l1 z2 l2 h L T = 0 := by
 rw [smZ1, smL1, smZ2, smL2, smH, smN, hb]; exact ⟨rfl, rfl, rfl, rfl, rfl, rfl⟩
theorem sm_good {width z1 z2 : Int} {l1 l2 : List ByteArray} {h : Hd} {L T : List ByteArray} (hb : smOk width z1 l1 z2 l2 h L T = true) :
  smZ1 width z1 l1 z2 l2 h L T = z1 + L.length ∧ smL1 width z1 l1 z2 l2 h L T = smP width z1 l1 L ∧ smZ2 width z1 l1 z2 l2 h L T = z2 + T.length ∧ smL2 width z1 l1 z2 l2 h L T = smP width z2 l2 T ∧
  smH width z1 l1 z2 l2 h L T = ⟨h.num + 1, z1 + L.length, aU width (smP width z1 l1 L), z2 + T.length, aU width (smP width z2 l2 T)⟩ ∧
  smN width z1 l1 z2 l2 h L T = ((aW z1.toNat L.length + aW z2.toNat T.length + aS (smP width z1 l1 L) + aS (smP width z2 l2 T) : Nat) : Int) := by
 rw [smZ1, smL1, smZ2, smL2, smH, smN, hb]; exact ⟨rfl, rfl, rfl, rfl, rfl, rfl⟩
set_option maxRecDepth 100000 in
theorem specSealMore_c (width z1 z2 : Int) (A1 A2 : Option Addr) (c1 c2 lo1 hi1 lo2 hi2 m1 m2 : Nat) (l1 l2 : List ByteArray) (h : Hd) (X1 X2 : Option Addr) (g1 g2 lo3 hi3 lo4 hi4 k1 k2 : Nat) (L T : List ByteArray) (w : World)
  (hR1 : Rd w lo1 hi1 A1 (strs l1)) (hR2 : Rd w lo2 hi2 A2 (strs l2)) (hX1 : Rd w lo3 hi3 X1 (strs L)) (hX2 : Rd w lo4 hi4 X2 (strs T)) (hn1 : l1.length = m1) (hn2 : l2.length = m2) (hk1 : L.length = k1) (hk2 : T.length = k2)
  (hm1 : m1 ≤ 1048576) (hm2 : m2 ≤ 1048576) (hm3 : k1 ≤ 1048576) (hm4 : k2 ≤ 1048576) (hA1 : A1 = none → c1 = 0) (hA2 : A2 = none → c2 = 0) (hI1 : I64 z1) (hI2 : I64 z2) (hz : h.bulk ≤ 1048576) :
  Calls Tryz.prog 99 #[.int .i64 width, .agg #[.int .i64 z1, .slice A1 m1 c1, .int .i64 z2, .slice A2 m2 c2, .int .i64 h.num, .int .i64 h.size, .string h.root, .int .i64 h.taken, .string h.troot], .slice X1 k1 g1, .slice X2 k2 g2] w fun e w' => SmPost w (smZ1 width z1 l1 z2 l2 h L T) (smL1 width z1 l1 z2 l2 h L T) (smZ2 width z1 l1 z2 l2 h L T) (smL2 width z1 l1 z2 l2 h L T) (smH width z1 l1 z2 l2 h L T) (smN width z1 l1 z2 l2 h L T) (smCode width z1 l1 z2 l2 h L T) e w' := by
 have HSO := lH (fun W (r1 : Rd W 0 W.heap.size A1 (strs l1)) (r2 : Rd W 0 W.heap.size A2 (strs l2)) => specSealOk_c width z1 z2 A1 A2 c1 c2 0 W.heap.size 0 W.heap.size m1 m2 l1 l2 h W r1 r2 hn1 hn2 hm1 hm2 hz)
 have HH1 := lH (fun W (r : Rd W 0 W.heap.size X1 (strs L)) => l04Hashes_c width X1 g1 0 W.heap.size k1 L W r hk1 hm3)
 have HH2 := lH (fun W (r : Rd W 0 W.heap.size X2 (strs T)) => l04Hashes_c width X2 g2 0 W.heap.size k2 T W r hk2 hm4)
 have HG1 := lH (fun W (r1 : Rd W 0 W.heap.size A1 (strs l1)) (r2 : Rd W 0 W.heap.size X1 (strs L)) => specGrowAllN_c width z1 A1 c1 0 W.heap.size m1 l1 X1 g1 0 W.heap.size k1 L W r1 hn1 hm1 hA1 r2 hk1 hm3 hI1)
 have HG2 := lH (fun W (r1 : Rd W 0 W.heap.size A2 (strs l2)) (r2 : Rd W 0 W.heap.size X2 (strs T)) => specGrowAllN_c width z2 A2 c2 0 W.heap.size m2 l2 X2 g2 0 W.heap.size k2 T W r1 hn2 hm2 hA2 r2 hk2 hm4 hI2)
 have HOK : Hid (smOk width z1 l1 z2 l2 h L T = (ed width z1 l1 z2 l2 h && bE width L && bE width T && smFit z1 z2 h k1 k2)) := lH (by rw [smOk, hk1, hk2])
 have HCD : Hid (smCode width z1 l1 z2 l2 h L T = if ed width z1 l1 z2 l2 h = false then 1 else if bE width L = false then 2 else if bE width T = false then 3 else if smFit z1 z2 h k1 k2 = false then 4 else 0) := lH (by rw [smCode, hk1, hk2])
 have HBD := lH (fun hb => sm_bad (width := width) (z1 := z1) (z2 := z2) (l1 := l1) (l2 := l2) (h := h) (L := L) (T := T) hb)
 have HGD := lH (fun hb => sm_good (width := width) (z1 := z1) (z2 := z2) (l1 := l1) (l2 := l2) (h := h) (L := L) (T := T) hb)
 rw [hk1, hk2] at HGD
 have HK := lH (And.intro hk1 hk2)
 generalize smZ1 width z1 l1 z2 l2 h L T = s1 at *
 generalize smL1 width z1 l1 z2 l2 h L T = p1 at *
 generalize smZ2 width z1 l1 z2 l2 h L T = s2 at *
 generalize smL2 width z1 l1 z2 l2 h L T = p2 at *
 generalize smH width z1 l1 z2 l2 h L T = sh at *
 generalize smN width z1 l1 z2 l2 h L T = sn at *
 generalize smCode width z1 l1 z2 l2 h L T = sc at *
 generalize smOk width z1 l1 z2 l2 h L T = ok at *
 have HB : Hid (Below w.heap.size w w) := Below.refl _ _
 have HOA : Hid (Rd w (0) (w.heap.size) (A1) (strs l1)) := Rd.base hR1
 have HOB : Hid (Rd w (0) (w.heap.size) (A2) (strs l2)) := Rd.base hR2
 have HOX : Hid (Rd w (0) (w.heap.size) (X1) (strs L)) := Rd.base hX1
 have HOY : Hid (Rd w (0) (w.heap.size) (X2) (strs T)) := Rd.base hX2
 clear hR1 hR2 hX1 hX2 hn1 hn2 hk1 hk2 hA1 hA2
 go_enter Tryz.func99, Tryz.ntmps99
 go_wp2_with fail
 refine af (fun w1 hw => ?_)
 have hz1 : w.heap.size + 2 ≤ w1.heap.size := zA
 have hbn : Below w.heap.size w w1 := zB
 replace HB := bT HB hbn
 replace HOA := lH (HOA.out.below hbn)
 replace HOB := lH (HOB.out.below hbn)
 replace HOX := lH (HOX.out.below hbn)
 replace HOY := lH (HOY.out.below hbn)
 clear hbn
 have HXs : Hid (aa w1 (w.heap.size) [.int .i64 z1, .slice A1 m1 c1, .int .i64 z2, .slice A2 m2 c2, .int .i64 h.num, .int .i64 h.size, .string h.root, .int .i64 h.taken, .string h.troot]) := zG9
 obtain ⟨hks, hxs, hfs⟩ := HXs.out
 have HXq : Hid (aa w1 (w.heap.size + 1) [.int .i64 0, .slice none 0 0, .int .i64 0, .slice none 0 0, .int .i64 0, .int .i64 0, .string ⟨#[]⟩, .int .i64 0, .string ⟨#[]⟩]) := zG9
 obtain ⟨hkq, hxq, hfq⟩ := HXq.out
 clear hw
 refine (HSO.out _ HOA.out.base HOB.out.base).mono ?_
 rintro e w2 ⟨rfl, hb⟩
 have hzw2 : w1.heap.size ≤ w2.heap.size := hb.size
 replace HB := bT HB hb
 replace HOA := lH (HOA.out.below hb)
 replace HOB := lH (HOB.out.below hb)
 replace HOX := lH (HOX.out.below hb)
 replace HOY := lH (HOY.out.below hb)
 replace HXs := nB HXs hb
 clear hxs hfs hks
 obtain ⟨hks, hxs, hfs⟩ := HXs.out
 replace HXq := nB HXq hb
 clear hxq hfq hkq
 obtain ⟨hkq, hxq, hfq⟩ := HXq.out
 clear hb
 rcases hq1 : ed width z1 l1 z2 l2 h with _ | _
 ·skip
  have hz0 : ok = false := by rw [HOK.out, hq1]; simp
  obtain ⟨rfl, rfl, rfl, rfl, rfl, rfl⟩ := HBD.out hz0
  have hsc : sc = 1 := by rw [HCD.out, hq1, if_pos rfl]
  subst hsc; clear HOK HCD HBD HGD hz0 hq1; go_wp2
  refine ai (fun w3 hw => ?_)
  have hz3 : w2.heap.size + 0 ≤ w3.heap.size := zA
  replace HB : Hid (Below w.heap.size w w3) := zC HB
  replace HOA : Hid (Rd w3 (0) (w.heap.size) (A1) (strs l1)) := zLRd HOA
  replace HOB : Hid (Rd w3 (0) (w.heap.size) (A2) (strs l2)) := zLRd HOB
  replace HOX : Hid (Rd w3 (0) (w.heap.size) (X1) (strs L)) := zLRd HOX
  replace HOY : Hid (Rd w3 (0) (w.heap.size) (X2) (strs T)) := zLRd HOY
  replace HXs : Hid (aa w3 (w.heap.size) [.int .i64 z1, .slice A1 m1 c1, .int .i64 z2, .slice A2 m2 c2, .int .i64 h.num, .int .i64 h.size, .string h.root, .int .i64 h.taken, .string h.troot]) := zE HXs
  clear hxs hfs hks; obtain ⟨hks, hxs, hfs⟩ := HXs.out
  replace HXq : Hid (aa w3 (w.heap.size + 1) [.int .i64 0, .slice none 0 0, .int .i64 0, .slice none 0 0, .int .i64 0, .int .i64 0, .string ⟨#[]⟩, .int .i64 0, .string ⟨#[]⟩]) := zD HXq
  clear hxq hfq hkq; obtain ⟨hkq, hxq, hfq⟩ := HXq.out; clear hw
  refine bodyPost_ret (v := .tuple #[.agg #[.int .i64 0, .slice none 0 0, .int .i64 0, .slice none 0 0, .int .i64 0, .int .i64 0, .string ⟨#[]⟩, .int .i64 0, .string ⟨#[]⟩], .int .i64 0, .int .i64 1]) (by simp [results, Tryz.results99, go_sem, hxq]) rfl ?_
  exact smBad_post HB.out _
 have HQ1 := lH hq1
 rw [hq1, if_neg (by decide)] at HCD
 rw [hq1] at HOK
 clear hq1
 go_wp2_with fail
 refine (HH1.out _ HOX.out.base).mono ?_
 rintro e w3_ ⟨rfl, rfl⟩
 rcases hq2 : bE width L with _ | _
 ·rw [Bool.false_and]
  have hz0 : ok = false := by rw [HOK.out, hq2]; simp
  obtain ⟨rfl, rfl, rfl, rfl, rfl, rfl⟩ := HBD.out hz0
  have hsc : sc = 2 := by rw [HCD.out, hq2, if_pos rfl]
  subst hsc; clear HOK HCD HBD HGD hz0 hq2; go_wp2
  refine ai (fun w4 hw => ?_)
  have hz4 : w2.heap.size + 0 ≤ w4.heap.size := zA
  replace HB : Hid (Below w.heap.size w w4) := zC HB
  replace HOA : Hid (Rd w4 (0) (w.heap.size) (A1) (strs l1)) := zLRd HOA
  replace HOB : Hid (Rd w4 (0) (w.heap.size) (A2) (strs l2)) := zLRd HOB
  replace HOX : Hid (Rd w4 (0) (w.heap.size) (X1) (strs L)) := zLRd HOX
  replace HOY : Hid (Rd w4 (0) (w.heap.size) (X2) (strs T)) := zLRd HOY
  replace HXs : Hid (aa w4 (w.heap.size) [.int .i64 z1, .slice A1 m1 c1, .int .i64 z2, .slice A2 m2 c2, .int .i64 h.num, .int .i64 h.size, .string h.root, .int .i64 h.taken, .string h.troot]) := zE HXs
  clear hxs hfs hks; obtain ⟨hks, hxs, hfs⟩ := HXs.out
  replace HXq : Hid (aa w4 (w.heap.size + 1) [.int .i64 0, .slice none 0 0, .int .i64 0, .slice none 0 0, .int .i64 0, .int .i64 0, .string ⟨#[]⟩, .int .i64 0, .string ⟨#[]⟩]) := zD HXq
  clear hxq hfq hkq; obtain ⟨hkq, hxq, hfq⟩ := HXq.out; clear hw
  refine bodyPost_ret (v := .tuple #[.agg #[.int .i64 0, .slice none 0 0, .int .i64 0, .slice none 0 0, .int .i64 0, .int .i64 0, .string ⟨#[]⟩, .int .i64 0, .string ⟨#[]⟩], .int .i64 0, .int .i64 2]) (by simp [results, Tryz.results99, go_sem, hxq]) rfl ?_
  exact smBad_post HB.out _
 have HQ2 := lH hq2
 obtain ⟨u1, u2, u3, u4⟩ := sealOk_all HQ1.out
 have hwd := (bZ u1).2.2.2.2
 rw [hwd, Bool.and_true]
 rw [hq2, if_neg (by decide)] at HCD
 rw [hq2] at HOK
 clear hq2
 go_wp2_with fail
 refine (HH2.out _ HOY.out.base).mono ?_
 rintro e w4_ ⟨rfl, rfl⟩
 rcases hq3 : bE width T with _ | _
 ·rw [Bool.false_and]
  clear u1 u2 hwd
  have hz0 : ok = false := by rw [HOK.out, hq3]; simp
  obtain ⟨rfl, rfl, rfl, rfl, rfl, rfl⟩ := HBD.out hz0
  have hsc : sc = 3 := by rw [HCD.out, hq3, if_pos rfl]
  subst hsc; clear HOK HCD HBD HGD hz0 hq3; go_wp2
  refine ai (fun w5 hw => ?_)
  have hz5 : w2.heap.size + 0 ≤ w5.heap.size := zA
  replace HB : Hid (Below w.heap.size w w5) := zC HB
  replace HOA : Hid (Rd w5 (0) (w.heap.size) (A1) (strs l1)) := zLRd HOA
  replace HOB : Hid (Rd w5 (0) (w.heap.size) (A2) (strs l2)) := zLRd HOB
  replace HOX : Hid (Rd w5 (0) (w.heap.size) (X1) (strs L)) := zLRd HOX
  replace HOY : Hid (Rd w5 (0) (w.heap.size) (X2) (strs T)) := zLRd HOY
  replace HXs : Hid (aa w5 (w.heap.size) [.int .i64 z1, .slice A1 m1 c1, .int .i64 z2, .slice A2 m2 c2, .int .i64 h.num, .int .i64 h.size, .string h.root, .int .i64 h.taken, .string h.troot]) := zE HXs
  clear hxs hfs hks; obtain ⟨hks, hxs, hfs⟩ := HXs.out
  replace HXq : Hid (aa w5 (w.heap.size + 1) [.int .i64 0, .slice none 0 0, .int .i64 0, .slice none 0 0, .int .i64 0, .int .i64 0, .string ⟨#[]⟩, .int .i64 0, .string ⟨#[]⟩]) := zD HXq
  clear hxq hfq hkq; obtain ⟨hkq, hxq, hfq⟩ := HXq.out; clear hw
  refine bodyPost_ret (v := .tuple #[.agg #[.int .i64 0, .slice none 0 0, .int .i64 0, .slice none 0 0, .int .i64 0, .int .i64 0, .string ⟨#[]⟩, .int .i64 0, .string ⟨#[]⟩], .int .i64 0, .int .i64 3]) (by simp [results, Tryz.results99, go_sem, hxq]) rfl ?_
  exact smBad_post HB.out _
 have HQ3 := lH hq3
 rw [hwd, Bool.and_true]
 rw [hq3, if_neg (by decide)] at HCD
 rw [hq3] at HOK
 clear hq3
 obtain ⟨ok1, ho1⟩ : ∃ o, o = growOk width z1 l1 L := ⟨_, rfl⟩
 obtain ⟨ok2, ho2⟩ : ∃ o, o = growOk width z2 l2 T := ⟨_, rfl⟩
 have HO1 : Hid (ok1 = decide ((k1 : Int) ≤ 512 - z1)) := lH (by rw [ho1, growOk, u1, HQ2.out, HK.out.1]; rfl)
 have HO2 : Hid (ok2 = decide ((k2 : Int) ≤ 512 - z2)) := lH (by rw [ho2, growOk, u2, HQ3.out, HK.out.2]; rfl)
 have HP1 : Hid (ok1 = true → gSize width z1 l1 L = z1 + k1 ∧ gPeaks width z1 l1 L = smP width z1 l1 L ∧ gCalls width z1 l1 L = (aW z1.toNat k1 : Nat)) := lH (fun hh => by rw [gSize, gPeaks, gCalls, ← ho1, hh, HK.out.1, smP, HK.out.1]; exact ⟨rfl, rfl, rfl⟩)
 have HP2 : Hid (ok2 = true → gSize width z2 l2 T = z2 + k2 ∧ gPeaks width z2 l2 T = smP width z2 l2 T ∧ gCalls width z2 l2 T = (aW z2.toNat k2 : Nat)) := lH (fun hh => by rw [gSize, gPeaks, gCalls, ← ho2, hh, HK.out.2, smP, HK.out.2]; exact ⟨rfl, rfl, rfl⟩)
 have HU := lH (And.intro u1 u2)
 rw [← ho1] at HG1
 rw [← ho2] at HG2
 clear ho1 ho2 u1 u2 hwd HSO HH1 HH2
 generalize gSize width z1 l1 L = gs1 at *
 generalize gPeaks width z1 l1 L = gp1 at *
 generalize gCalls width z1 l1 L = gc1 at *
 generalize gSize width z2 l2 T = gs2 at *
 generalize gPeaks width z2 l2 T = gp2 at *
 generalize gCalls width z2 l2 T = gc2 at *
 go_wp2_with fail
 refine af (fun w5 hw => ?_)
 have hz5 : w2.heap.size + 0 ≤ w5.heap.size := zA
 have hbn : Below w2.heap.size w2 w5 := zB
 replace HB := bT HB hbn
 replace HOA := lH (HOA.out.below hbn)
 replace HOB := lH (HOB.out.below hbn)
 replace HOX := lH (HOX.out.below hbn)
 replace HOY := lH (HOY.out.below hbn)
 replace HXs := nB HXs hbn
 clear hxs hfs hks
 obtain ⟨hks, hxs, hfs⟩ := HXs.out
 replace HXq := nB HXq hbn
 clear hxq hfq hkq
 obtain ⟨hkq, hxq, hfq⟩ := HXq.out
 clear hbn
 clear hw
 refine (HG1.out _ HOA.out.base HOX.out.base).mono ?_
 rintro e w6 ⟨A3, c3, rfl, ⟨hown3, hn3⟩, hb⟩
 have hzw6 : w5.heap.size ≤ w6.heap.size := hb.size
 replace HB := bT HB hb
 replace HOA := lH (HOA.out.below hb)
 replace HOB := lH (HOB.out.below hb)
 replace HOX := lH (HOX.out.below hb)
 replace HOY := lH (HOY.out.below hb)
 replace HXs := nB HXs hb
 clear hxs hfs hks
 obtain ⟨hks, hxs, hfs⟩ := HXs.out
 replace HXq := nB HXq hb
 clear hxq hfq hkq
 obtain ⟨hkq, hxq, hfq⟩ := HXq.out
 clear hb
 have hb3 : w.heap.size + 2 ≤ w5.heap.size := by omega
 have HOR : Hid (Own w6 (w5.heap.size) (w6.heap.size) (A3) (strs gp1)) := hown3
 have hb4 : Hid (w.heap.size ≤ w5.heap.size) := lH (by omega)
 obtain ⟨e1, he1⟩ : ∃ e1, e1 = w6.heap.size := ⟨_, rfl⟩
 have HN3 := lH hn3
 clear hown3 hn3
 go_wp2_with fail
 refine af (fun w7 hw => ?_)
 have hz7 : w6.heap.size + 1 ≤ w7.heap.size := zA
 have hbn : Below w6.heap.size w6 w7 := zB
 replace HB := bT HB hbn
 replace HOA := lH (HOA.out.below hbn)
 replace HOB := lH (HOB.out.below hbn)
 replace HOX := lH (HOX.out.below hbn)
 replace HOY := lH (HOY.out.below hbn)
 replace HOR := lH (HOR.out.below hbn)
 replace HXs := nB HXs hbn
 clear hxs hfs hks
 obtain ⟨hks, hxs, hfs⟩ := HXs.out
 replace HXq := nB HXq hbn
 clear hxq hfq hkq
 obtain ⟨hkq, hxq, hfq⟩ := HXq.out
 clear hbn
 have HXa : Hid (aa w7 (w6.heap.size) [.int .i64 gs1, .slice A3 gp1.length c3]) := zG2
 obtain ⟨hka, hxa, hfa⟩ := HXa.out
 clear hw
 refine (HG2.out _ HOB.out.base HOY.out.base).mono ?_
 rintro e w8 ⟨A4, c4, rfl, ⟨hown4, hn4⟩, hb⟩
 have hzw8 : w7.heap.size ≤ w8.heap.size := hb.size
 replace HB := bT HB hb
 replace HOA := lH (HOA.out.below hb)
 replace HOB := lH (HOB.out.below hb)
 replace HOX := lH (HOX.out.below hb)
 replace HOY := lH (HOY.out.below hb)
 replace HOR := lH (HOR.out.below hb)
 replace HXs := nB HXs hb
 clear hxs hfs hks
 obtain ⟨hks, hxs, hfs⟩ := HXs.out
 replace HXq := nB HXq hb
 clear hxq hfq hkq
 obtain ⟨hkq, hxq, hfq⟩ := HXq.out
 replace HXa := nB HXa hb
 clear hxa hfa hka
 obtain ⟨hka, hxa, hfa⟩ := HXa.out
 clear hb
 have HOZ : Hid (Own w8 (w7.heap.size) (w8.heap.size) (A4) (strs gp2)) := hown4
 have hb5 : e1 ≤ w7.heap.size := by omega
 have HN4 := lH hn4
 clear hown4 hn4
 have HFIT : Hid (smFit z1 z2 h k1 k2 = (ok1 && ok2 && !(h.num == 399))) := lH (by rw [smFit, ← HO1.out, ← HO2.out])
 clear HG1 HG2
 rcases ok1 with _ | _
 ·have hq4 : smFit z1 z2 h k1 k2 = false := by rw [HFIT.out]; rfl
  have hz0 : ok = false := by rw [HOK.out, hq4]; simp
  obtain ⟨rfl, rfl, rfl, rfl, rfl, rfl⟩ := HBD.out hz0
  have hsc : sc = 4 := by rw [HCD.out, hq4, if_pos rfl]
  subst hsc; clear HOK HCD HBD HGD hz0 hq4; go_wp2
  refine ai (fun w9 hw => ?_)
  have hz9 : w8.heap.size + 1 ≤ w9.heap.size := zA
  replace HB : Hid (Below w.heap.size w w9) := zC HB
  replace HOA : Hid (Rd w9 (0) (w.heap.size) (A1) (strs l1)) := zLRd HOA
  replace HOB : Hid (Rd w9 (0) (w.heap.size) (A2) (strs l2)) := zLRd HOB
  replace HOX : Hid (Rd w9 (0) (w.heap.size) (X1) (strs L)) := zLRd HOX
  replace HOY : Hid (Rd w9 (0) (w.heap.size) (X2) (strs T)) := zLRd HOY
  replace HOR : Hid (Own w9 (w5.heap.size) (w6.heap.size) (A3) (strs gp1)) := zLOwn HOR
  replace HOZ : Hid (Own w9 (w7.heap.size) (w8.heap.size) (A4) (strs gp2)) := zLOwn HOZ
  replace HXs : Hid (aa w9 (w.heap.size) [.int .i64 z1, .slice A1 m1 c1, .int .i64 z2, .slice A2 m2 c2, .int .i64 h.num, .int .i64 h.size, .string h.root, .int .i64 h.taken, .string h.troot]) := zE HXs
  clear hxs hfs hks; obtain ⟨hks, hxs, hfs⟩ := HXs.out
  replace HXq : Hid (aa w9 (w.heap.size + 1) [.int .i64 0, .slice none 0 0, .int .i64 0, .slice none 0 0, .int .i64 0, .int .i64 0, .string ⟨#[]⟩, .int .i64 0, .string ⟨#[]⟩]) := zD HXq
  clear hxq hfq hkq; obtain ⟨hkq, hxq, hfq⟩ := HXq.out
  replace HXa : Hid (aa w9 (w6.heap.size) [.int .i64 gs1, .slice A3 gp1.length c3]) := zE HXa
  clear hxa hfa hka; obtain ⟨hka, hxa, hfa⟩ := HXa.out
  have HXb : Hid (aa w9 (w8.heap.size) [.int .i64 gs2, .slice A4 gp2.length c4]) := zG2
  obtain ⟨hkb, hxb, hfb⟩ := HXb.out; clear hw
  refine bodyPost_ret (v := .tuple #[.agg #[.int .i64 0, .slice none 0 0, .int .i64 0, .slice none 0 0, .int .i64 0, .int .i64 0, .string ⟨#[]⟩, .int .i64 0, .string ⟨#[]⟩], .int .i64 0, .int .i64 4]) (by simp [results, Tryz.results99, go_sem, hxq]) rfl ?_
  exact smBad_post HB.out _
 rcases ok2 with _ | _
 ·have hq4 : smFit z1 z2 h k1 k2 = false := by rw [HFIT.out]; rfl
  have hz0 : ok = false := by rw [HOK.out, hq4]; simp
  obtain ⟨rfl, rfl, rfl, rfl, rfl, rfl⟩ := HBD.out hz0
  have hsc : sc = 4 := by rw [HCD.out, hq4, if_pos rfl]
  subst hsc; clear HOK HCD HBD HGD hz0 hq4; go_wp2
  refine ai (fun w9 hw => ?_)
  have hz9 : w8.heap.size + 1 ≤ w9.heap.size := zA
  replace HB : Hid (Below w.heap.size w w9) := zC HB
  replace HOA : Hid (Rd w9 (0) (w.heap.size) (A1) (strs l1)) := zLRd HOA
  replace HOB : Hid (Rd w9 (0) (w.heap.size) (A2) (strs l2)) := zLRd HOB
  replace HOX : Hid (Rd w9 (0) (w.heap.size) (X1) (strs L)) := zLRd HOX
  replace HOY : Hid (Rd w9 (0) (w.heap.size) (X2) (strs T)) := zLRd HOY
  replace HOR : Hid (Own w9 (w5.heap.size) (w6.heap.size) (A3) (strs gp1)) := zLOwn HOR
  replace HOZ : Hid (Own w9 (w7.heap.size) (w8.heap.size) (A4) (strs gp2)) := zLOwn HOZ
  replace HXs : Hid (aa w9 (w.heap.size) [.int .i64 z1, .slice A1 m1 c1, .int .i64 z2, .slice A2 m2 c2, .int .i64 h.num, .int .i64 h.size, .string h.root, .int .i64 h.taken, .string h.troot]) := zE HXs
  clear hxs hfs hks; obtain ⟨hks, hxs, hfs⟩ := HXs.out
  replace HXq : Hid (aa w9 (w.heap.size + 1) [.int .i64 0, .slice none 0 0, .int .i64 0, .slice none 0 0, .int .i64 0, .int .i64 0, .string ⟨#[]⟩, .int .i64 0, .string ⟨#[]⟩]) := zD HXq
  clear hxq hfq hkq; obtain ⟨hkq, hxq, hfq⟩ := HXq.out
  replace HXa : Hid (aa w9 (w6.heap.size) [.int .i64 gs1, .slice A3 gp1.length c3]) := zE HXa
  clear hxa hfa hka; obtain ⟨hka, hxa, hfa⟩ := HXa.out
  have HXb : Hid (aa w9 (w8.heap.size) [.int .i64 gs2, .slice A4 gp2.length c4]) := zG2
  obtain ⟨hkb, hxb, hfb⟩ := HXb.out; clear hw
  refine bodyPost_ret (v := .tuple #[.agg #[.int .i64 0, .slice none 0 0, .int .i64 0, .slice none 0 0, .int .i64 0, .int .i64 0, .string ⟨#[]⟩, .int .i64 0, .string ⟨#[]⟩], .int .i64 0, .int .i64 4]) (by simp [results, Tryz.results99, go_sem, hxq]) rfl ?_
  exact smBad_post HB.out _
 rcases hq5 : (h.num == 399) with _ | _
 case true =>
  have hq4 : smFit z1 z2 h k1 k2 = false := by rw [HFIT.out, hq5]; rfl
  have hz0 : ok = false := by rw [HOK.out, hq4]; simp
  obtain ⟨rfl, rfl, rfl, rfl, rfl, rfl⟩ := HBD.out hz0
  have hsc : sc = 4 := by rw [HCD.out, hq4, if_pos rfl]
  subst hsc; clear HOK HCD HBD HGD hz0 hq4; go_wp2
  refine ai (fun w9 hw => ?_)
  have hz9 : w8.heap.size + 1 ≤ w9.heap.size := zA
  replace HB : Hid (Below w.heap.size w w9) := zC HB
  replace HOA : Hid (Rd w9 (0) (w.heap.size) (A1) (strs l1)) := zLRd HOA
  replace HOB : Hid (Rd w9 (0) (w.heap.size) (A2) (strs l2)) := zLRd HOB
  replace HOX : Hid (Rd w9 (0) (w.heap.size) (X1) (strs L)) := zLRd HOX
  replace HOY : Hid (Rd w9 (0) (w.heap.size) (X2) (strs T)) := zLRd HOY
  replace HOR : Hid (Own w9 (w5.heap.size) (w6.heap.size) (A3) (strs gp1)) := zLOwn HOR
  replace HOZ : Hid (Own w9 (w7.heap.size) (w8.heap.size) (A4) (strs gp2)) := zLOwn HOZ
  replace HXs : Hid (aa w9 (w.heap.size) [.int .i64 z1, .slice A1 m1 c1, .int .i64 z2, .slice A2 m2 c2, .int .i64 h.num, .int .i64 h.size, .string h.root, .int .i64 h.taken, .string h.troot]) := zE HXs
  clear hxs hfs hks; obtain ⟨hks, hxs, hfs⟩ := HXs.out
  replace HXq : Hid (aa w9 (w.heap.size + 1) [.int .i64 0, .slice none 0 0, .int .i64 0, .slice none 0 0, .int .i64 0, .int .i64 0, .string ⟨#[]⟩, .int .i64 0, .string ⟨#[]⟩]) := zD HXq
  clear hxq hfq hkq; obtain ⟨hkq, hxq, hfq⟩ := HXq.out
  replace HXa : Hid (aa w9 (w6.heap.size) [.int .i64 gs1, .slice A3 gp1.length c3]) := zE HXa
  clear hxa hfa hka; obtain ⟨hka, hxa, hfa⟩ := HXa.out
  have HXb : Hid (aa w9 (w8.heap.size) [.int .i64 gs2, .slice A4 gp2.length c4]) := zG2
  obtain ⟨hkb, hxb, hfb⟩ := HXb.out; clear hw
  refine bodyPost_ret (v := .tuple #[.agg #[.int .i64 0, .slice none 0 0, .int .i64 0, .slice none 0 0, .int .i64 0, .int .i64 0, .string ⟨#[]⟩, .int .i64 0, .string ⟨#[]⟩], .int .i64 0, .int .i64 4]) (by simp [results, Tryz.results99, go_sem, hxq]) rfl ?_
  exact smBad_post HB.out _
 have hq4 : smFit z1 z2 h k1 k2 = true := by rw [HFIT.out, hq5]; rfl
 have hok : ok = true := by rw [HOK.out, hq4]; rfl
 have hsc : sc = 0 := by rw [HCD.out, hq4]; rfl
 obtain ⟨x1, x2, x3⟩ := HP1.out rfl
 obtain ⟨y1, y2, y3⟩ := HP2.out rfl
 obtain ⟨t1, t2, t3, t4, t5, t6⟩ := HGD.out hok
 have hf1 := of_decide_eq_true HO1.out.symm
 have hf2 := of_decide_eq_true HO2.out.symm
 obtain ⟨v1, v2, v3⟩ := rng_grow (L := L) HU.out.1 HQ2.out (by rw [HK.out.1]; exact hf1)
 obtain ⟨v4, v5, v6⟩ := rng_grow (L := T) HU.out.2 HQ3.out (by rw [HK.out.2]; exact hf2)
 rw [HK.out.1] at v1 v3
 rw [HK.out.2] at v4 v6
 have t7 : sn = gc1 + gc2 + (aS gp1 : Nat) + (aS gp2 : Nat) := by rw [t6, x3, y3, x2, y2]; simp only [Int.natCast_add]
 rw [← x1, ← x2, ← y1, ← y2] at t5
 rw [← x1] at t1 v1
 rw [← y1] at t3 v4
 rw [← x2] at t2 v1 v2
 rw [← y2] at t4 v4 v5
 obtain ⟨hz11, hz12, _⟩ := bZ HU.out.1
 obtain ⟨hz21, hz22, _⟩ := bZ HU.out.2
 have hgc1 : 0 ≤ gc1 ∧ gc1 ≤ 5120 := by omega
 have hgc2 : 0 ≤ gc2 ∧ gc2 ≤ 5120 := by omega
 have hgs1 : 0 ≤ gs1 ∧ gs1 ≤ 512 := by omega
 have hgs2 : 0 ≤ gs2 ∧ gs2 ≤ 512 := by omega
 clear t6 x1 x2 x3 y1 y2 y3
 replace t1 := t1.symm
 replace t2 := t2.symm
 replace t3 := t3.symm
 replace t4 := t4.symm
 subst t1; subst t2; subst t3; subst t4; subst t5; subst t7; subst hsc
 have HRR1 := lH (fun W A c (r : Rd W 0 W.heap.size A (strs gp1)) => fO width gs1 A c 0 W.heap.size _ _ W r rfl (by omega))
 have HRR2 := lH (fun W A c (r : Rd W 0 W.heap.size A (strs gp2)) => fO width gs2 A c 0 W.heap.size _ _ W r rfl (by omega))
 have hrt1 : rrT width gs1 gp1 = aU width gp1 := by rw [rrT, v1]; rfl
 have hrt2 : rrT width gs2 gp2 = aU width gp2 := by rw [rrT, v4]; rfl
 have hrn1 : rrN width gs1 gp1 = aS gp1 := by rw [rrN, v1]; rfl
 have hrn2 : rrN width gs2 gp2 = aS gp2 := by rw [rrN, v4]; rfl
 have hmd1 : aS gp1 ≤ 20 := by rw [aS]; omega
 have hmd2 : aS gp2 ≤ 20 := by rw [aS]; omega
 rw [hrt1, hrn1, v1] at HRR1
 rw [hrt2, hrn2, v4] at HRR2
 have hnum : 0 ≤ h.num ∧ h.num ≤ 399 := ⟨u3, u4⟩
 clear hrt1 hrt2 hrn1 hrn2 v1 v4 v3 v6 hf1 hf2 HGD HBD HCD HOK HFIT HO1 HO2 HP1 HP2 HU HQ1 HQ2 HQ3 HK hok hq4
 obtain ⟨rr1, hr1⟩ : ∃ r, r = aU width gp1 := ⟨_, rfl⟩
 obtain ⟨rr2, hr2⟩ : ∃ r, r = aU width gp2 := ⟨_, rfl⟩
 obtain ⟨rm1, hr3⟩ : ∃ r, r = aS gp1 := ⟨_, rfl⟩
 obtain ⟨rm2, hr4⟩ : ∃ r, r = aS gp2 := ⟨_, rfl⟩
 rw [← hr1, ← hr3] at HRR1
 rw [← hr2, ← hr4] at HRR2
 rw [← hr3] at hmd1
 rw [← hr4] at hmd2
 have HE := lH (And.intro hr1 (And.intro hr2 (And.intro hr3 hr4)))
 clear hr1 hr2 hr3 hr4
 clear HOA
 clear HOB
 clear HOX
 clear HOY
 go_wp2_with fail
 refine af (fun w9 hw => ?_)
 have hz9 : w8.heap.size + 1 ≤ w9.heap.size := zA
 have hbn : Below w8.heap.size w8 w9 := zB
 replace HB := bT HB hbn
 replace HOR := lH (HOR.out.below hbn)
 replace HOZ := lH (HOZ.out.below hbn)
 replace HXs := nB HXs hbn
 clear hxs hfs hks
 obtain ⟨hks, hxs, hfs⟩ := HXs.out
 replace HXq := nB HXq hbn
 clear hxq hfq hkq
 obtain ⟨hkq, hxq, hfq⟩ := HXq.out
 replace HXa := nB HXa hbn
 clear hxa hfa hka
 obtain ⟨hka, hxa, hfa⟩ := HXa.out
 clear hbn
 have HXb : Hid (aa w9 (w8.heap.size) [.int .i64 gs2, .slice A4 gp2.length c4]) := zG2
 obtain ⟨hkb, hxb, hfb⟩ := HXb.out
 clear hw
 refine (HRR1.out _ _ _ HOR.out.rd.base).mono ?_
 rintro e w10 ⟨rfl, hb⟩
 have hzw10 : w9.heap.size ≤ w10.heap.size := hb.size
 replace HB := bT HB hb
 replace HOR := lH (HOR.out.below hb)
 replace HOZ := lH (HOZ.out.below hb)
 replace HXs := nB HXs hb
 clear hxs hfs hks
 obtain ⟨hks, hxs, hfs⟩ := HXs.out
 replace HXq := nB HXq hb
 clear hxq hfq hkq
 obtain ⟨hkq, hxq, hfq⟩ := HXq.out
 replace HXa := nB HXa hb
 clear hxa hfa hka
 obtain ⟨hka, hxa, hfa⟩ := HXa.out
 replace HXb := nB HXb hb
 clear hxb hfb hkb
 obtain ⟨hkb, hxb, hfb⟩ := HXb.out
 clear hb
 go_wp2_with fail
 refine af (fun w11 hw => ?_)
 have hz11 : w10.heap.size + 0 ≤ w11.heap.size := zA
 have hbn : Below w10.heap.size w10 w11 := zB
 replace HB := bT HB hbn
 replace HOR := lH (HOR.out.below hbn)
 replace HOZ := lH (HOZ.out.below hbn)
 replace HXs := nB HXs hbn
 clear hxs hfs hks
 obtain ⟨hks, hxs, hfs⟩ := HXs.out
 replace HXq := nB HXq hbn
 clear hxq hfq hkq
 obtain ⟨hkq, hxq, hfq⟩ := HXq.out
 replace HXa := nB HXa hbn
 clear hxa hfa hka
 obtain ⟨hka, hxa, hfa⟩ := HXa.out
 replace HXb := nB HXb hbn
 clear hxb hfb hkb
 obtain ⟨hkb, hxb, hfb⟩ := HXb.out
 clear hbn
 clear hw
 refine (HRR2.out _ _ _ HOZ.out.rd.base).mono ?_
 rintro e w12 ⟨rfl, hb⟩
 have hzw12 : w11.heap.size ≤ w12.heap.size := hb.size
 replace HB := bT HB hb
 replace HOR := lH (HOR.out.below hb)
 replace HOZ := lH (HOZ.out.below hb)
 replace HXs := nB HXs hb
 clear hxs hfs hks
 obtain ⟨hks, hxs, hfs⟩ := HXs.out
 replace HXq := nB HXq hb
 clear hxq hfq hkq
 obtain ⟨hkq, hxq, hfq⟩ := HXq.out
 replace HXa := nB HXa hb
 clear hxa hfa hka
 obtain ⟨hka, hxa, hfa⟩ := HXa.out
 replace HXb := nB HXb hb
 clear hxb hfb hkb
 obtain ⟨hkb, hxb, hfb⟩ := HXb.out
 clear hb
 go_wp2
 refine ai (fun w13 hw => ?_)
 have hz13 : w12.heap.size + 1 ≤ w13.heap.size := zA
 replace HB : Hid (Below w.heap.size w w13) := zC HB
 replace HOR : Hid (Own w13 (w5.heap.size) (w6.heap.size) (A3) (strs gp1)) := zLOwn HOR
 replace HOZ : Hid (Own w13 (w7.heap.size) (w8.heap.size) (A4) (strs gp2)) := zLOwn HOZ
 replace HXs : Hid (aa w13 (w.heap.size) [.int .i64 z1, .slice A1 m1 c1, .int .i64 z2, .slice A2 m2 c2, .int .i64 h.num, .int .i64 h.size, .string h.root, .int .i64 h.taken, .string h.troot]) := zE HXs
 clear hxs hfs hks
 obtain ⟨hks, hxs, hfs⟩ := HXs.out
 replace HXq : Hid (aa w13 (w.heap.size + 1) [.int .i64 gs1, .slice A3 gp1.length c3, .int .i64 gs2, .slice A4 gp2.length c4, .int .i64 (h.num + 1), .int .i64 gs1, .string rr1, .int .i64 gs2, .string rr2]) := zD HXq
 clear hxq hfq hkq
 obtain ⟨hkq, hxq, hfq⟩ := HXq.out
 replace HXa : Hid (aa w13 (w6.heap.size) [.int .i64 gs1, .slice A3 gp1.length c3]) := zE HXa
 clear hxa hfa hka
 obtain ⟨hka, hxa, hfa⟩ := HXa.out
 replace HXb : Hid (aa w13 (w8.heap.size) [.int .i64 gs2, .slice A4 gp2.length c4]) := zE HXb
 clear hxb hfb hkb
 obtain ⟨hkb, hxb, hfb⟩ := HXb.out
 have HXhd : Hid (aa w13 (w12.heap.size) [.int .i64 (h.num + 1), .int .i64 gs1, .string rr1, .int .i64 gs2, .string rr2]) := zG5
 obtain ⟨hkhd, hxhd, hfhd⟩ := HXhd.out
 clear hw
 refine bodyPost_ret (v := .tuple #[.agg #[.int .i64 gs1, .slice A3 gp1.length c3, .int .i64 gs2, .slice A4 gp2.length c4, .int .i64 (h.num + 1), .int .i64 gs1, .string rr1, .int .i64 gs2, .string rr2], .int .i64 (gc1 + gc2 + rm1 + rm2), .int .i64 0]) (by simp [results, Tryz.results99, go_sem, hxq]) rfl ?_
 obtain ⟨e1', e2', e3', e4'⟩ := HE.out
 exact ⟨A3, c3, _, _, A4, c4, _, _, by rw [e1', e2', e3', e4'], ⟨by omega, by omega, HOR.out, HN3.out⟩, ⟨by omega, by omega, HOZ.out, HN4.out⟩, .inl (by omega), HB.out⟩
end
end Go.Proofs.YtoccjgcokffkbaaGreat
