/- GrowAll, Grow and RangeOf of the program. -/
import Derived.Test.YtojjjhbiccgjkaaGrwa
namespace Go.Proofs.Ytojjjhbiccgjkaa
set_option linter.unusedVariables false
set_option linter.unusedSimpArgs false
open Go.RowKit

def growOk (width z : Int) (l leaves : List ByteArray) : Bool := rngOk width z l && areH width leaves && decide ((leaves.length : Int) ≤ 512 - z)
def gSize (width z : Int) (l leaves : List ByteArray) : Int := if growOk width z l leaves then z + leaves.length else 0
def gPeaks (width z : Int) (l leaves : List ByteArray) : List ByteArray := if growOk width z l leaves then growUp width z.toNat l leaves leaves.length else []
def gCalls (width z : Int) (l leaves : List ByteArray) : Int := if growOk width z l leaves then (callsUp z.toNat leaves.length : Nat) else 0
theorem rngOk_all {width z : Int} {l : List ByteArray} (h : rngOk width z l = true) : 0 ≤ z ∧ z ≤ 512 ∧ l.length = popC z ∧ areH width l = true ∧ inR width 1 32 = true := by
  rw [rngOk, Bool.and_eq_true, Bool.and_eq_true, Bool.and_eq_true] at h
  have h1 := inR_true.1 h.1.1
  exact ⟨h1.1, h1.2, of_decide_eq_true h.1.2, h.2.1, h.2.2⟩
theorem popC_nat {n : Nat} (h : n ≤ 512) : popC n = popN n := by
  rw [popC, if_pos (inR_true.2 ⟨by omega, by omega⟩), Int.toNat_natCast]
theorem GrowRel.only {p o base m : Nat} {v v' : Value} {w w' : World} {xs : List Value} (h : GrowRel p o v v' w w') (hr : w.ownsRow base 9 1 v m xs) (hp : base ≤ p) : Only base w.heap.size w w' :=
  ⟨h.os, h.tape, h.output, h.size, fun k hk hd => h.block k hk (by omega) (fun e => by have := (hr.lt k e.symm).1; omega)⟩
theorem rng_new {w : World} {base m : Nat} {n : Int} {v : Value} {l : List ByteArray} (T : TypeId) (hT : T ≠ 9) (h : w.ownsRow base 9 1 v m (strs l)) : RngAt (w.alloc (.cells #[.int .i64 n, v] T)) base w.heap.size 0 n v m l := by
  have hx := NewBox.new w #[.int .i64 n, v] T
  exact ⟨⟨_, T, heap_alloc_new w _, hT⟩, hx.cell (o := 0) rfl, hx.cell (o := 1) rfl, h.alloc _⟩

set_option maxRecDepth 100000 in
set_option maxHeartbeats 4000000 in
theorem implGrowAll_c (width z : Int) (A : Option Addr) (c lo hi m : Nat) (l : List ByteArray) (X : Option Addr) (g lo' hi' k0 : Nat) (leaves : List ByteArray) (w : World) (hr : Rd w lo hi A (strs l)) (hn : l.length = m) (hl : m ≤ 1048576) (hA : A = none → c = 0)
    (hX : Rd w lo' hi' X (strs leaves)) (hk : leaves.length = k0) (hkl : k0 ≤ 1048576) (hz : I64 z) :
    Calls Try.prog 69 #[.int .i64 width, .agg #[.int .i64 z, .slice A m c], .slice X k0 g] w fun e w' => ∃ A' c', e = .returned (.tuple #[.agg #[.int .i64 (gSize width z l leaves), .slice A' (gPeaks width z l leaves).length c'], .int .i64 (gCalls width z l leaves), .bool (growOk width z l leaves)]) ∧
      Own w' w.heap.size w'.heap.size A' (strs (gPeaks width z l leaves)) ∧ Below w.heap.size w w' := by
  have HDEF : Hid (growOk width z l leaves = (rngOk width z l && areH width leaves && decide ((k0 : Int) ≤ 512 - z))) := Lib.hid (by rw [growOk, hk])
  have HBAD : Hid (growOk width z l leaves = false → gSize width z l leaves = 0 ∧ gPeaks width z l leaves = [] ∧ gCalls width z l leaves = 0) := Lib.hid (fun h => by rw [gSize, gPeaks, gCalls, h]; exact ⟨rfl, rfl, rfl⟩)
  have HGOOD : Hid (growOk width z l leaves = true → gSize width z l leaves = z + k0 ∧ gPeaks width z l leaves = growUp width z.toNat l leaves k0 ∧ gCalls width z l leaves = (callsUp z.toNat k0 : Nat)) := Lib.hid (fun h => by rw [gSize, gPeaks, gCalls, h, hk]; exact ⟨rfl, rfl, rfl⟩)
  have HRK := Lib.hid (fun W (h : Rd W 0 W.heap.size A (strs l)) => implRangeOk_c width z A c 0 W.heap.size m l W h hn hl)
  have HAR := Lib.hid (fun W (h : Rd W 0 W.heap.size X (strs leaves)) => areHashes_c width X g 0 W.heap.size k0 leaves W h hk hkl)
  have HCP := Lib.hid (fun W (h : Rd W 0 W.heap.size A (strs l)) => copyRange_c z A c 0 W.heap.size m l W h hn hl hA)
  have HKN := Lib.hid (And.intro hn hk)
  have HX0 : Hid (Rd w 0 w.heap.size X (strs leaves)) := Lib.hid hX.base
  generalize growOk width z l leaves = ok at *
  generalize gSize width z l leaves = gs at *
  generalize gPeaks width z l leaves = gp at *
  generalize gCalls width z l leaves = gc at *
  have HB : Hid (Below w.heap.size w w) := Below.refl _ _
  have HOA : Hid (Rd w (0) (w.heap.size) (A) (strs l)) := Rd.base hr
  have HOX : Hid (Rd w (0) (w.heap.size) (X) (strs leaves)) := Rd.base hX
  clear hr hX hn hk hA
  go_enter Try.func69, Try.ntmps69
  go_wp2_with fail
  refine calls_named (fun w1 hw => ?_)
  have hz1 : w.heap.size + 2 ≤ w1.heap.size := by rw [hw]; first | omega | (simp [World.setCell]; done) | (simp [World.setCell]; omega)
  have hzz1 : w.heap.size ≤ w1.heap.size := by omega
  replace HB : Hid (Below w.heap.size w w1) := by rw [Hid, hw]; exact (by ((repeat (first | ((with_reducible refine Below.alloc ?_ ?_ _); rotate_left 1; (focus (first | omega | (simp; done) | (simp; omega)))) | (with_reducible refine Below.drew ?_) | ((with_reducible refine Below.setCell ?_ ?_ _); rotate_left 1; (focus (first | omega | (simp; done) | (simp; omega)))))); exact HB.out))
  replace HOA : Hid (Rd w1 (0) (w.heap.size) (A) (strs l)) := by rw [Hid, hw]; (repeat (first | (with_reducible refine Rd.alloc ?_ _) | (with_reducible refine Rd.drew ?_) | ((with_reducible refine Rd.setCell ?_ ?_ _); rotate_left 1; (focus (first | omega | (simp; done) | (simp; omega)))))); exact HOA.out
  replace HOX : Hid (Rd w1 (0) (w.heap.size) (X) (strs leaves)) := by rw [Hid, hw]; (repeat (first | (with_reducible refine Rd.alloc ?_ _) | (with_reducible refine Rd.drew ?_) | ((with_reducible refine Rd.setCell ?_ ?_ _); rotate_left 1; (focus (first | omega | (simp; done) | (simp; omega)))))); exact HOX.out
  have HXr : Hid (NewBox w1 (w.heap.size) [.int .i64 z, .slice A m c]) := by rw [Hid, hw]; exact ⟨by first | omega | (simp [World.setCell]; done) | (simp [World.setCell]; omega), fun o => by rcases o with _ | _ | o <;> go_simp, fun o => by go_simp⟩
  have hxr := HXr.out.2.1
  have hfr := HXr.out.2.2
  have hkr := HXr.out.1
  have HXq : Hid (NewBox w1 (w.heap.size + 1) [.int .i64 0, .slice none 0 0]) := by rw [Hid, hw]; exact ⟨by first | omega | (simp [World.setCell]; done) | (simp [World.setCell]; omega), fun o => by rcases o with _ | _ | o <;> go_simp, fun o => by go_simp⟩
  have hxq := HXq.out.2.1
  have hfq := HXq.out.2.2
  have hkq := HXq.out.1
  clear hw
  refine (HRK.out _ HOA.out.base).mono ?_
  rintro e w2 ⟨rfl, hb⟩
  have hzw2 : w1.heap.size ≤ w2.heap.size := hb.size
  have hzzw2 : w.heap.size ≤ w2.heap.size := by omega
  replace HB : Hid (Below w.heap.size w w2) := below_then HB.out hb HB.out.size
  replace HOA : Hid (Rd w2 (0) (w.heap.size) (A) (strs l)) := HOA.out.below hb
  replace HOX : Hid (Rd w2 (0) (w.heap.size) (X) (strs leaves)) := HOX.out.below hb
  replace HXr : Hid (NewBox w2 (w.heap.size) [.int .i64 z, .slice A m c]) := HXr.out.below hb
  clear hxr hfr hkr
  have hxr := HXr.out.2.1
  have hfr := HXr.out.2.2
  have hkr := HXr.out.1
  replace HXq : Hid (NewBox w2 (w.heap.size + 1) [.int .i64 0, .slice none 0 0]) := HXq.out.below hb
  clear hxq hfq hkq
  have hxq := HXq.out.2.1
  have hfq := HXq.out.2.2
  have hkq := HXq.out.1
  clear hb
  rcases hq1 : rngOk width z l with _ | _
  · obtain ⟨rfl, rfl, rfl⟩ := HBAD.out (by rw [HDEF.out, hq1]; rfl)
    have hz0 : ok = false := by rw [HDEF.out, hq1]; rfl
    subst hz0
    go_wp2
    refine bodyPost_named (fun w3 hw => ?_)
    have hz3 : w2.heap.size + 0 ≤ w3.heap.size := by rw [hw]; first | omega | (simp [World.setCell]; done) | (simp [World.setCell]; omega)
    have hzz3 : w.heap.size ≤ w3.heap.size := by omega
    replace HB : Hid (Below w.heap.size w w3) := by rw [Hid, hw]; exact (by ((repeat (first | ((with_reducible refine Below.alloc ?_ ?_ _); rotate_left 1; (focus (first | omega | (simp; done) | (simp; omega)))) | (with_reducible refine Below.drew ?_) | ((with_reducible refine Below.setCell ?_ ?_ _); rotate_left 1; (focus (first | omega | (simp; done) | (simp; omega)))))); exact HB.out))
    replace HOA : Hid (Rd w3 (0) (w.heap.size) (A) (strs l)) := by rw [Hid, hw]; (repeat (first | (with_reducible refine Rd.alloc ?_ _) | (with_reducible refine Rd.drew ?_) | ((with_reducible refine Rd.setCell ?_ ?_ _); rotate_left 1; (focus (first | omega | (simp; done) | (simp; omega)))))); exact HOA.out
    replace HOX : Hid (Rd w3 (0) (w.heap.size) (X) (strs leaves)) := by rw [Hid, hw]; (repeat (first | (with_reducible refine Rd.alloc ?_ _) | (with_reducible refine Rd.drew ?_) | ((with_reducible refine Rd.setCell ?_ ?_ _); rotate_left 1; (focus (first | omega | (simp; done) | (simp; omega)))))); exact HOX.out
    replace HXr : Hid (NewBox w3 (w.heap.size) [.int .i64 z, .slice A m c]) := by rw [Hid, hw]; (repeat (first | (with_reducible refine NewBox.alloc ?_ _) | (with_reducible refine NewBox.drew ?_) | ((with_reducible refine NewBox.setCell ?_ ?_ _); rotate_left 1; (focus (first | omega | (simp; done) | (simp; omega)))))); exact HXr.out
    clear hxr hfr hkr
    have hxr := HXr.out.2.1
    have hfr := HXr.out.2.2
    have hkr := HXr.out.1
    replace HXq : Hid (NewBox w3 (w.heap.size + 1) [.int .i64 0, .slice none 0 0]) := by rw [Hid, hw]; apply NewBox.cast; (focus ((repeat (first | (with_reducible apply NewBox.alloc) | (with_reducible apply NewBox.drew) | (with_reducible apply NewBox.set1) | ((with_reducible apply NewBox.far); (focus (first | omega | (simp; done) | (simp; omega)))))); exact HXq.out)); rfl
    clear hxq hfq hkq
    have hxq := HXq.out.2.1
    have hfq := HXq.out.2.2
    have hkq := HXq.out.1
    clear hw
    refine bodyPost_ret (v := .tuple #[.agg #[.int .i64 0, .slice none 0 0], .int .i64 0, .bool false]) (by simp [results, Try.results69, go_sem, hxq]) rfl ?_
    exact ⟨none, 0, rfl, Own.nil, HB.out⟩
  · obtain ⟨hz1, hz2, hpl, hah, hwd⟩ := rngOk_all hq1
    rw [hq1] at HDEF
    clear hq1
    go_wp2_with fail
    refine (HAR.out _ HOX.out.base).mono ?_
    rintro e w3_ ⟨rfl, rfl⟩
    rcases hq2 : areH width leaves with _ | _
    · obtain ⟨rfl, rfl, rfl⟩ := HBAD.out (by rw [HDEF.out, hq2]; rfl)
      have hz0 : ok = false := by rw [HDEF.out, hq2]; rfl
      subst hz0
      go_wp2
      refine bodyPost_named (fun w4 hw => ?_)
      have hz4 : w2.heap.size + 0 ≤ w4.heap.size := by rw [hw]; first | omega | (simp [World.setCell]; done) | (simp [World.setCell]; omega)
      have hzz4 : w.heap.size ≤ w4.heap.size := by omega
      replace HB : Hid (Below w.heap.size w w4) := by rw [Hid, hw]; exact (by ((repeat (first | ((with_reducible refine Below.alloc ?_ ?_ _); rotate_left 1; (focus (first | omega | (simp; done) | (simp; omega)))) | (with_reducible refine Below.drew ?_) | ((with_reducible refine Below.setCell ?_ ?_ _); rotate_left 1; (focus (first | omega | (simp; done) | (simp; omega)))))); exact HB.out))
      replace HOA : Hid (Rd w4 (0) (w.heap.size) (A) (strs l)) := by rw [Hid, hw]; (repeat (first | (with_reducible refine Rd.alloc ?_ _) | (with_reducible refine Rd.drew ?_) | ((with_reducible refine Rd.setCell ?_ ?_ _); rotate_left 1; (focus (first | omega | (simp; done) | (simp; omega)))))); exact HOA.out
      replace HOX : Hid (Rd w4 (0) (w.heap.size) (X) (strs leaves)) := by rw [Hid, hw]; (repeat (first | (with_reducible refine Rd.alloc ?_ _) | (with_reducible refine Rd.drew ?_) | ((with_reducible refine Rd.setCell ?_ ?_ _); rotate_left 1; (focus (first | omega | (simp; done) | (simp; omega)))))); exact HOX.out
      replace HXr : Hid (NewBox w4 (w.heap.size) [.int .i64 z, .slice A m c]) := by rw [Hid, hw]; (repeat (first | (with_reducible refine NewBox.alloc ?_ _) | (with_reducible refine NewBox.drew ?_) | ((with_reducible refine NewBox.setCell ?_ ?_ _); rotate_left 1; (focus (first | omega | (simp; done) | (simp; omega)))))); exact HXr.out
      clear hxr hfr hkr
      have hxr := HXr.out.2.1
      have hfr := HXr.out.2.2
      have hkr := HXr.out.1
      replace HXq : Hid (NewBox w4 (w.heap.size + 1) [.int .i64 0, .slice none 0 0]) := by rw [Hid, hw]; apply NewBox.cast; (focus ((repeat (first | (with_reducible apply NewBox.alloc) | (with_reducible apply NewBox.drew) | (with_reducible apply NewBox.set1) | ((with_reducible apply NewBox.far); (focus (first | omega | (simp; done) | (simp; omega)))))); exact HXq.out)); rfl
      clear hxq hfq hkq
      have hxq := HXq.out.2.1
      have hfq := HXq.out.2.2
      have hkq := HXq.out.1
      clear hw
      refine bodyPost_ret (v := .tuple #[.agg #[.int .i64 0, .slice none 0 0], .int .i64 0, .bool false]) (by simp [results, Try.results69, go_sem, hxq]) rfl ?_
      exact ⟨none, 0, rfl, Own.nil, HB.out⟩
    · have HV := Lib.hid hq2
      rw [hq2] at HDEF
      clear hq2
      rcases (show (k0 : Int) ≤ 512 - z ∨ 512 - z < (k0 : Int) by omega) with h3 | h3
      · have hok : ok = true := by rw [HDEF.out, decide_eq_true h3]; rfl
        obtain ⟨n, hnz⟩ : ∃ n, n = z.toNat := ⟨_, rfl⟩
        have hzn : (n : Int) = z := by omega
        have hg3 := HGOOD.out hok
        rw [← hnz] at hg3
        obtain ⟨rfl, rfl, rfl⟩ := hg3
        subst hok
        have hnk : n + k0 ≤ 512 := by omega
        have hpm : m = popN n := by rw [← HKN.out.1, hpl, ← hzn, popC_nat (by omega)]
        have hgs : ((n + k0 : Nat) : Int) = z + k0 := by omega
        have HGS := Lib.hid hgs
        have hlm : l.length = popN n := by rw [HKN.out.1, hpm]
        have HGL := Lib.hid (growUp_len (width := width) (leaves := leaves) hlm hnk)
        have HGA : Hid (∀ (W : World) (base p c' : Nat) (A' : Option Addr), base ≤ W.heap.size → w.heap.size ≤ p → w.heap.size ≤ base → Rd W 0 w.heap.size X (strs leaves) → RngAt W base p 0 z (.slice A' m c') m l → base ≤ p →
            Calls Try.prog 125 #[.pointer (some ⟨p, 0, none⟩), .int .i64 width, .slice X k0 g] W fun e w' => ∃ A2 c2, e = .returned (.int .i64 (callsUp n k0 : Nat)) ∧ RngAt w' base p 0 ((n + k0 : Nat) : Int) (.slice A2 (popN (n + k0)) c2) (popN (n + k0)) (growUp width n l leaves k0) ∧ Only base W.heap.size W w') :=
          Lib.hid (fun W base p c' A' h1 h2 h3 h4 h5 h6 => (growAll_c width n p 0 base c' w.heap.size A' l X g k0 leaves W hwd hlm hah HKN.out.2 HV.out hnk h1 h2 h3 h4 (by rw [← hpm, hzn]; exact h5)).mono fun e w' ⟨A2, c2, he, hr2, hg2⟩ => ⟨A2, c2, he, hr2, hg2.only (by rw [← hpm]; exact h5.row) h6⟩)
        have HPM := Lib.hid hpm
        clear hpl hah hpm hlm hzn hnz hgs HGOOD HBAD HDEF HRK HAR
        go_wp2_with fail
        refine calls_named (fun w4 hw => ?_)
        have hz4 : w2.heap.size + 0 ≤ w4.heap.size := by rw [hw]; first | omega | (simp [World.setCell]; done) | (simp [World.setCell]; omega)
        have hzz4 : w.heap.size ≤ w4.heap.size := by omega
        replace HB : Hid (Below w.heap.size w w4) := by rw [Hid, hw]; exact (by ((repeat (first | ((with_reducible refine Below.alloc ?_ ?_ _); rotate_left 1; (focus (first | omega | (simp; done) | (simp; omega)))) | (with_reducible refine Below.drew ?_) | ((with_reducible refine Below.setCell ?_ ?_ _); rotate_left 1; (focus (first | omega | (simp; done) | (simp; omega)))))); exact HB.out))
        replace HOA : Hid (Rd w4 (0) (w.heap.size) (A) (strs l)) := by rw [Hid, hw]; (repeat (first | (with_reducible refine Rd.alloc ?_ _) | (with_reducible refine Rd.drew ?_) | ((with_reducible refine Rd.setCell ?_ ?_ _); rotate_left 1; (focus (first | omega | (simp; done) | (simp; omega)))))); exact HOA.out
        replace HOX : Hid (Rd w4 (0) (w.heap.size) (X) (strs leaves)) := by rw [Hid, hw]; (repeat (first | (with_reducible refine Rd.alloc ?_ _) | (with_reducible refine Rd.drew ?_) | ((with_reducible refine Rd.setCell ?_ ?_ _); rotate_left 1; (focus (first | omega | (simp; done) | (simp; omega)))))); exact HOX.out
        replace HXr : Hid (NewBox w4 (w.heap.size) [.int .i64 z, .slice A m c]) := by rw [Hid, hw]; (repeat (first | (with_reducible refine NewBox.alloc ?_ _) | (with_reducible refine NewBox.drew ?_) | ((with_reducible refine NewBox.setCell ?_ ?_ _); rotate_left 1; (focus (first | omega | (simp; done) | (simp; omega)))))); exact HXr.out
        clear hxr hfr hkr
        have hxr := HXr.out.2.1
        have hfr := HXr.out.2.2
        have hkr := HXr.out.1
        replace HXq : Hid (NewBox w4 (w.heap.size + 1) [.int .i64 0, .slice none 0 0]) := by rw [Hid, hw]; (repeat (first | (with_reducible refine NewBox.alloc ?_ _) | (with_reducible refine NewBox.drew ?_) | ((with_reducible refine NewBox.setCell ?_ ?_ _); rotate_left 1; (focus (first | omega | (simp; done) | (simp; omega)))))); exact HXq.out
        clear hxq hfq hkq
        have hxq := HXq.out.2.1
        have hfq := HXq.out.2.2
        have hkq := HXq.out.1
        clear hw
        refine (HCP.out _ HOA.out.base).mono ?_
        rintro e w5 ⟨A3, c3, rfl, hrow3, hb⟩
        have hzw5 : w4.heap.size ≤ w5.heap.size := hb.size
        have hzzw5 : w.heap.size ≤ w5.heap.size := by omega
        replace HB : Hid (Below w.heap.size w w5) := below_then HB.out hb HB.out.size
        replace HOA : Hid (Rd w5 (0) (w.heap.size) (A) (strs l)) := HOA.out.below hb
        replace HOX : Hid (Rd w5 (0) (w.heap.size) (X) (strs leaves)) := HOX.out.below hb
        replace HXr : Hid (NewBox w5 (w.heap.size) [.int .i64 z, .slice A m c]) := HXr.out.below hb
        clear hxr hfr hkr
        have hxr := HXr.out.2.1
        have hfr := HXr.out.2.2
        have hkr := HXr.out.1
        replace HXq : Hid (NewBox w5 (w.heap.size + 1) [.int .i64 0, .slice none 0 0]) := HXq.out.below hb
        clear hxq hfq hkq
        have hxq := HXq.out.2.1
        have hfq := HXq.out.2.2
        have hkq := HXq.out.1
        clear hb
        have HROW3 := Lib.hid hrow3
        have hb3 : w.heap.size + 2 ≤ w4.heap.size := by omega
        clear hrow3
        go_wp2_with fail
        refine calls_named (fun w10 hw => ?_)
        have hR10 : RngAt w10 w4.heap.size w5.heap.size 0 z (.slice A3 m c3) m l := by rw [hw]; exact rng_new _ (by decide) HROW3.out
        have hb10 : Below w5.heap.size w5 w10 := by rw [hw]; exact (Below.refl _ _).alloc (Nat.le_refl _) _
        have HR10 := Lib.hid hR10
        have hpc : w4.heap.size ≤ w5.heap.size := hzw5
        have hpz : w5.heap.size < w10.heap.size := hR10.typed.lt
        clear hw hR10
        have hzw10 : w5.heap.size ≤ w10.heap.size := hb10.size
        have hzzw10 : w.heap.size ≤ w10.heap.size := by omega
        replace HB : Hid (Below w.heap.size w w10) := below_then HB.out hb10 HB.out.size
        replace HOA : Hid (Rd w10 (0) (w.heap.size) (A) (strs l)) := HOA.out.below hb10
        replace HOX : Hid (Rd w10 (0) (w.heap.size) (X) (strs leaves)) := HOX.out.below hb10
        replace HXr : Hid (NewBox w10 (w.heap.size) [.int .i64 z, .slice A m c]) := HXr.out.below hb10
        clear hxr hfr hkr
        have hxr := HXr.out.2.1
        have hfr := HXr.out.2.2
        have hkr := HXr.out.1
        replace HXq : Hid (NewBox w10 (w.heap.size + 1) [.int .i64 0, .slice none 0 0]) := HXq.out.below hb10
        clear hxq hfq hkq
        have hxq := HXq.out.2.1
        have hfq := HXq.out.2.2
        have hkq := HXq.out.1
        clear hb10
        refine (HGA.out _ _ _ _ _ (by omega) (by omega) (by omega) (HX0.out.lowB HB.out (Nat.le_refl _)) HR10.out hpc).mono ?_
        rintro e w11 ⟨A11, c11, rfl, hR11, hon⟩
        have HR11 := Lib.hid hR11
        have hc0 := hR11.c0
        have hc1 := hR11.c1
        clear hR11
        clear HOA HOX
        have hzw11 : w10.heap.size ≤ w11.heap.size := hon.size
        have hzzw11 : w.heap.size ≤ w11.heap.size := by omega
        replace HB : Hid (Below w.heap.size w w11) := below_only HB.out hon (by omega) HB.out.size
        replace HXr : Hid (NewBox w11 (w.heap.size) [.int .i64 z, .slice A m c]) := HXr.out.only hon (by first | omega | (simp; omega))
        clear hxr hfr hkr
        have hxr := HXr.out.2.1
        have hfr := HXr.out.2.2
        have hkr := HXr.out.1
        replace HXq : Hid (NewBox w11 (w.heap.size + 1) [.int .i64 0, .slice none 0 0]) := HXq.out.only hon (by first | omega | (simp; omega))
        clear hxq hfq hkq
        have hxq := HXq.out.2.1
        have hfq := HXq.out.2.2
        have hkq := HXq.out.1
        clear hon HGA HR10
        have HOR : Hid (Own w11 (w4.heap.size) (w11.heap.size) (A11) (strs (growUp width n l leaves k0))) := Own.of_ownsRow HR11.out.row
        go_wp2
        refine bodyPost_named (fun w6 hw => ?_)
        have hz6 : w11.heap.size + 0 ≤ w6.heap.size := by rw [hw]; first | omega | (simp [World.setCell]; done) | (simp [World.setCell]; omega)
        have hzz6 : w.heap.size ≤ w6.heap.size := by omega
        replace HB : Hid (Below w.heap.size w w6) := by rw [Hid, hw]; exact (by ((repeat (first | ((with_reducible refine Below.alloc ?_ ?_ _); rotate_left 1; (focus (first | omega | (simp; done) | (simp; omega)))) | (with_reducible refine Below.drew ?_) | ((with_reducible refine Below.setCell ?_ ?_ _); rotate_left 1; (focus (first | omega | (simp; done) | (simp; omega)))))); exact HB.out))
        replace HOR : Hid (Own w6 (w4.heap.size) (w11.heap.size) (A11) (strs (growUp width n l leaves k0))) := by rw [Hid, hw]; (repeat (first | (with_reducible refine Own.alloc ?_ _) | (with_reducible refine Own.drew ?_) | ((with_reducible refine Own.setCell ?_ ?_ _); rotate_left 1; (focus (first | omega | (simp; done) | (simp; omega)))))); exact HOR.out
        replace HXr : Hid (NewBox w6 (w.heap.size) [.int .i64 z, .slice A m c]) := by rw [Hid, hw]; (repeat (first | (with_reducible refine NewBox.alloc ?_ _) | (with_reducible refine NewBox.drew ?_) | ((with_reducible refine NewBox.setCell ?_ ?_ _); rotate_left 1; (focus (first | omega | (simp; done) | (simp; omega)))))); exact HXr.out
        clear hxr hfr hkr
        have hxr := HXr.out.2.1
        have hfr := HXr.out.2.2
        have hkr := HXr.out.1
        replace HXq : Hid (NewBox w6 (w.heap.size + 1) [.int .i64 ((n + k0 : Nat) : Int), .slice A11 (popN (n + k0)) c11]) := by rw [Hid, hw]; apply NewBox.cast; (focus ((repeat (first | (with_reducible apply NewBox.alloc) | (with_reducible apply NewBox.drew) | (with_reducible apply NewBox.set1) | ((with_reducible apply NewBox.far); (focus (first | omega | (simp; done) | (simp; omega)))))); exact HXq.out)); rfl
        clear hxq hfq hkq
        have hxq := HXq.out.2.1
        have hfq := HXq.out.2.2
        have hkq := HXq.out.1
        clear hw
        refine bodyPost_ret (v := .tuple #[.agg #[.int .i64 ((n + k0 : Nat) : Int), .slice A11 (popN (n + k0)) c11], .int .i64 (callsUp n k0 : Nat), .bool true]) (by simp [results, Try.results69, go_sem, hxq]) rfl ?_
        exact ⟨A11, c11, by rw [HGS.out, HGL.out], HOR.out.mono (by omega) (by omega) (Nat.le_refl _), HB.out⟩
      · obtain ⟨rfl, rfl, rfl⟩ := HBAD.out (by rw [HDEF.out, decide_eq_false (by omega)]; rfl)
        have hz0 : ok = false := by rw [HDEF.out, decide_eq_false (by omega)]; rfl
        subst hz0
        go_wp2
        refine bodyPost_named (fun w4 hw => ?_)
        have hz4 : w2.heap.size + 0 ≤ w4.heap.size := by rw [hw]; first | omega | (simp [World.setCell]; done) | (simp [World.setCell]; omega)
        have hzz4 : w.heap.size ≤ w4.heap.size := by omega
        replace HB : Hid (Below w.heap.size w w4) := by rw [Hid, hw]; exact (by ((repeat (first | ((with_reducible refine Below.alloc ?_ ?_ _); rotate_left 1; (focus (first | omega | (simp; done) | (simp; omega)))) | (with_reducible refine Below.drew ?_) | ((with_reducible refine Below.setCell ?_ ?_ _); rotate_left 1; (focus (first | omega | (simp; done) | (simp; omega)))))); exact HB.out))
        replace HOA : Hid (Rd w4 (0) (w.heap.size) (A) (strs l)) := by rw [Hid, hw]; (repeat (first | (with_reducible refine Rd.alloc ?_ _) | (with_reducible refine Rd.drew ?_) | ((with_reducible refine Rd.setCell ?_ ?_ _); rotate_left 1; (focus (first | omega | (simp; done) | (simp; omega)))))); exact HOA.out
        replace HOX : Hid (Rd w4 (0) (w.heap.size) (X) (strs leaves)) := by rw [Hid, hw]; (repeat (first | (with_reducible refine Rd.alloc ?_ _) | (with_reducible refine Rd.drew ?_) | ((with_reducible refine Rd.setCell ?_ ?_ _); rotate_left 1; (focus (first | omega | (simp; done) | (simp; omega)))))); exact HOX.out
        replace HXr : Hid (NewBox w4 (w.heap.size) [.int .i64 z, .slice A m c]) := by rw [Hid, hw]; (repeat (first | (with_reducible refine NewBox.alloc ?_ _) | (with_reducible refine NewBox.drew ?_) | ((with_reducible refine NewBox.setCell ?_ ?_ _); rotate_left 1; (focus (first | omega | (simp; done) | (simp; omega)))))); exact HXr.out
        clear hxr hfr hkr
        have hxr := HXr.out.2.1
        have hfr := HXr.out.2.2
        have hkr := HXr.out.1
        replace HXq : Hid (NewBox w4 (w.heap.size + 1) [.int .i64 0, .slice none 0 0]) := by rw [Hid, hw]; apply NewBox.cast; (focus ((repeat (first | (with_reducible apply NewBox.alloc) | (with_reducible apply NewBox.drew) | (with_reducible apply NewBox.set1) | ((with_reducible apply NewBox.far); (focus (first | omega | (simp; done) | (simp; omega)))))); exact HXq.out)); rfl
        clear hxq hfq hkq
        have hxq := HXq.out.2.1
        have hfq := HXq.out.2.2
        have hkq := HXq.out.1
        clear hw
        refine bodyPost_ret (v := .tuple #[.agg #[.int .i64 0, .slice none 0 0], .int .i64 0, .bool false]) (by simp [results, Try.results69, go_sem, hxq]) rfl ?_
        exact ⟨none, 0, rfl, Own.nil, HB.out⟩
set_option maxRecDepth 100000 in
set_option maxHeartbeats 4000000 in
theorem implGrow_c (width z : Int) (A : Option Addr) (c lo hi m : Nat) (l : List ByteArray) (leaf : ByteArray) (w : World) (hr : Rd w lo hi A (strs l)) (hn : l.length = m) (hl : m ≤ 1048576) (hA : A = none → c = 0)
    (hls : leaf.size ≤ 1048576) (hz : I64 z) :
    Calls Try.prog 67 #[.int .i64 width, .agg #[.int .i64 z, .slice A m c], .string leaf] w fun e w' => ∃ A' c', e = .returned (.tuple #[.agg #[.int .i64 (gSize width z l [leaf]), .slice A' (gPeaks width z l [leaf]).length c'], .int .i64 (gCalls width z l [leaf]), .bool (growOk width z l [leaf])]) ∧
      Own w' w.heap.size w'.heap.size A' (strs (gPeaks width z l [leaf])) ∧ Below w.heap.size w w' := by
  have HDEF : Hid (growOk width z l [leaf] = (rngOk width z l && decide ((leaf.size : Int) = width) && decide ((1 : Int) ≤ 512 - z))) := Lib.hid (by rw [growOk]; simp [areH])
  have HBAD : Hid (growOk width z l [leaf] = false → gSize width z l [leaf] = 0 ∧ gPeaks width z l [leaf] = [] ∧ gCalls width z l [leaf] = 0) := Lib.hid (fun h => by rw [gSize, gPeaks, gCalls, h]; exact ⟨rfl, rfl, rfl⟩)
  have HGOOD : Hid (growOk width z l [leaf] = true → gSize width z l [leaf] = z + 1 ∧ gPeaks width z l [leaf] = growOne width z.toNat l leaf ∧ gCalls width z l [leaf] = (tz z.toNat : Nat)) := Lib.hid (fun h => by rw [gSize, gPeaks, gCalls, h]; exact ⟨rfl, rfl, congrArg Int.ofNat (Nat.zero_add _)⟩)
  have HRK := Lib.hid (fun W (h : Rd W 0 W.heap.size A (strs l)) => implRangeOk_c width z A c 0 W.heap.size m l W h hn hl)
  have HCP := Lib.hid (fun W (h : Rd W 0 W.heap.size A (strs l)) => copyRange_c z A c 0 W.heap.size m l W h hn hl hA)
  have HKN := Lib.hid (And.intro hn True.intro)
  generalize growOk width z l [leaf] = ok at *
  generalize gSize width z l [leaf] = gs at *
  generalize gPeaks width z l [leaf] = gp at *
  generalize gCalls width z l [leaf] = gc at *
  have HB : Hid (Below w.heap.size w w) := Below.refl _ _
  have HOA : Hid (Rd w (0) (w.heap.size) (A) (strs l)) := Rd.base hr
  clear hr hn hA
  go_enter Try.func67, Try.ntmps67
  go_wp2_with fail
  refine calls_named (fun w1 hw => ?_)
  have hz1 : w.heap.size + 2 ≤ w1.heap.size := by rw [hw]; first | omega | (simp [World.setCell]; done) | (simp [World.setCell]; omega)
  have hzz1 : w.heap.size ≤ w1.heap.size := by omega
  replace HB : Hid (Below w.heap.size w w1) := by rw [Hid, hw]; exact (by ((repeat (first | ((with_reducible refine Below.alloc ?_ ?_ _); rotate_left 1; (focus (first | omega | (simp; done) | (simp; omega)))) | (with_reducible refine Below.drew ?_) | ((with_reducible refine Below.setCell ?_ ?_ _); rotate_left 1; (focus (first | omega | (simp; done) | (simp; omega)))))); exact HB.out))
  replace HOA : Hid (Rd w1 (0) (w.heap.size) (A) (strs l)) := by rw [Hid, hw]; (repeat (first | (with_reducible refine Rd.alloc ?_ _) | (with_reducible refine Rd.drew ?_) | ((with_reducible refine Rd.setCell ?_ ?_ _); rotate_left 1; (focus (first | omega | (simp; done) | (simp; omega)))))); exact HOA.out
  have HXr : Hid (NewBox w1 (w.heap.size) [.int .i64 z, .slice A m c]) := by rw [Hid, hw]; exact ⟨by first | omega | (simp [World.setCell]; done) | (simp [World.setCell]; omega), fun o => by rcases o with _ | _ | o <;> go_simp, fun o => by go_simp⟩
  have hxr := HXr.out.2.1
  have hfr := HXr.out.2.2
  have hkr := HXr.out.1
  have HXq : Hid (NewBox w1 (w.heap.size + 1) [.int .i64 0, .slice none 0 0]) := by rw [Hid, hw]; exact ⟨by first | omega | (simp [World.setCell]; done) | (simp [World.setCell]; omega), fun o => by rcases o with _ | _ | o <;> go_simp, fun o => by go_simp⟩
  have hxq := HXq.out.2.1
  have hfq := HXq.out.2.2
  have hkq := HXq.out.1
  clear hw
  refine (HRK.out _ HOA.out.base).mono ?_
  rintro e w2 ⟨rfl, hb⟩
  have hzw2 : w1.heap.size ≤ w2.heap.size := hb.size
  have hzzw2 : w.heap.size ≤ w2.heap.size := by omega
  replace HB : Hid (Below w.heap.size w w2) := below_then HB.out hb HB.out.size
  replace HOA : Hid (Rd w2 (0) (w.heap.size) (A) (strs l)) := HOA.out.below hb
  replace HXr : Hid (NewBox w2 (w.heap.size) [.int .i64 z, .slice A m c]) := HXr.out.below hb
  clear hxr hfr hkr
  have hxr := HXr.out.2.1
  have hfr := HXr.out.2.2
  have hkr := HXr.out.1
  replace HXq : Hid (NewBox w2 (w.heap.size + 1) [.int .i64 0, .slice none 0 0]) := HXq.out.below hb
  clear hxq hfq hkq
  have hxq := HXq.out.2.1
  have hfq := HXq.out.2.2
  have hkq := HXq.out.1
  clear hb
  rcases hq1 : rngOk width z l with _ | _
  · obtain ⟨rfl, rfl, rfl⟩ := HBAD.out (by rw [HDEF.out, hq1]; rfl)
    have hz0 : ok = false := by rw [HDEF.out, hq1]; rfl
    subst hz0
    go_wp2
    refine bodyPost_named (fun w3 hw => ?_)
    have hz3 : w2.heap.size + 0 ≤ w3.heap.size := by rw [hw]; first | omega | (simp [World.setCell]; done) | (simp [World.setCell]; omega)
    have hzz3 : w.heap.size ≤ w3.heap.size := by omega
    replace HB : Hid (Below w.heap.size w w3) := by rw [Hid, hw]; exact (by ((repeat (first | ((with_reducible refine Below.alloc ?_ ?_ _); rotate_left 1; (focus (first | omega | (simp; done) | (simp; omega)))) | (with_reducible refine Below.drew ?_) | ((with_reducible refine Below.setCell ?_ ?_ _); rotate_left 1; (focus (first | omega | (simp; done) | (simp; omega)))))); exact HB.out))
    replace HOA : Hid (Rd w3 (0) (w.heap.size) (A) (strs l)) := by rw [Hid, hw]; (repeat (first | (with_reducible refine Rd.alloc ?_ _) | (with_reducible refine Rd.drew ?_) | ((with_reducible refine Rd.setCell ?_ ?_ _); rotate_left 1; (focus (first | omega | (simp; done) | (simp; omega)))))); exact HOA.out
    replace HXr : Hid (NewBox w3 (w.heap.size) [.int .i64 z, .slice A m c]) := by rw [Hid, hw]; (repeat (first | (with_reducible refine NewBox.alloc ?_ _) | (with_reducible refine NewBox.drew ?_) | ((with_reducible refine NewBox.setCell ?_ ?_ _); rotate_left 1; (focus (first | omega | (simp; done) | (simp; omega)))))); exact HXr.out
    clear hxr hfr hkr
    have hxr := HXr.out.2.1
    have hfr := HXr.out.2.2
    have hkr := HXr.out.1
    replace HXq : Hid (NewBox w3 (w.heap.size + 1) [.int .i64 0, .slice none 0 0]) := by rw [Hid, hw]; apply NewBox.cast; (focus ((repeat (first | (with_reducible apply NewBox.alloc) | (with_reducible apply NewBox.drew) | (with_reducible apply NewBox.set1) | ((with_reducible apply NewBox.far); (focus (first | omega | (simp; done) | (simp; omega)))))); exact HXq.out)); rfl
    clear hxq hfq hkq
    have hxq := HXq.out.2.1
    have hfq := HXq.out.2.2
    have hkq := HXq.out.1
    clear hw
    refine bodyPost_ret (v := .tuple #[.agg #[.int .i64 0, .slice none 0 0], .int .i64 0, .bool false]) (by simp [results, Try.results67, go_sem, hxq]) rfl ?_
    exact ⟨none, 0, rfl, Own.nil, HB.out⟩
  · obtain ⟨hz1, hz2, hpl, hah, hwd⟩ := rngOk_all hq1
    rw [hq1] at HDEF
    clear hq1
    rcases (show (leaf.size : Int) = width ∨ ¬ (leaf.size : Int) = width by omega) with hq3 | hq3
    rotate_left 1
    · have hq2 : decide ((leaf.size : Int) = width) = false := decide_eq_false hq3
      obtain ⟨rfl, rfl, rfl⟩ := HBAD.out (by rw [HDEF.out, hq2]; rfl)
      have hz0 : ok = false := by rw [HDEF.out, hq2]; rfl
      subst hz0
      clear hq2
      go_wp2
      refine bodyPost_named (fun w3 hw => ?_)
      have hz3 : w2.heap.size + 0 ≤ w3.heap.size := by rw [hw]; first | omega | (simp [World.setCell]; done) | (simp [World.setCell]; omega)
      have hzz3 : w.heap.size ≤ w3.heap.size := by omega
      replace HB : Hid (Below w.heap.size w w3) := by rw [Hid, hw]; exact (by ((repeat (first | ((with_reducible refine Below.alloc ?_ ?_ _); rotate_left 1; (focus (first | omega | (simp; done) | (simp; omega)))) | (with_reducible refine Below.drew ?_) | ((with_reducible refine Below.setCell ?_ ?_ _); rotate_left 1; (focus (first | omega | (simp; done) | (simp; omega)))))); exact HB.out))
      replace HOA : Hid (Rd w3 (0) (w.heap.size) (A) (strs l)) := by rw [Hid, hw]; (repeat (first | (with_reducible refine Rd.alloc ?_ _) | (with_reducible refine Rd.drew ?_) | ((with_reducible refine Rd.setCell ?_ ?_ _); rotate_left 1; (focus (first | omega | (simp; done) | (simp; omega)))))); exact HOA.out
      replace HXr : Hid (NewBox w3 (w.heap.size) [.int .i64 z, .slice A m c]) := by rw [Hid, hw]; (repeat (first | (with_reducible refine NewBox.alloc ?_ _) | (with_reducible refine NewBox.drew ?_) | ((with_reducible refine NewBox.setCell ?_ ?_ _); rotate_left 1; (focus (first | omega | (simp; done) | (simp; omega)))))); exact HXr.out
      clear hxr hfr hkr
      have hxr := HXr.out.2.1
      have hfr := HXr.out.2.2
      have hkr := HXr.out.1
      replace HXq : Hid (NewBox w3 (w.heap.size + 1) [.int .i64 0, .slice none 0 0]) := by rw [Hid, hw]; apply NewBox.cast; (focus ((repeat (first | (with_reducible apply NewBox.alloc) | (with_reducible apply NewBox.drew) | (with_reducible apply NewBox.set1) | ((with_reducible apply NewBox.far); (focus (first | omega | (simp; done) | (simp; omega)))))); exact HXq.out)); rfl
      clear hxq hfq hkq
      have hxq := HXq.out.2.1
      have hfq := HXq.out.2.2
      have hkq := HXq.out.1
      clear hw
      refine bodyPost_ret (v := .tuple #[.agg #[.int .i64 0, .slice none 0 0], .int .i64 0, .bool false]) (by simp [results, Try.results67, go_sem, hxq]) rfl ?_
      exact ⟨none, 0, rfl, Own.nil, HB.out⟩
    · have HV := Lib.hid hq3
      rw [decide_eq_true hq3] at HDEF
      have hne : ((leaf.size : Int) != width) = false := by simp [hq3]
      clear hq3
      rcases (show (1 : Int) ≤ 512 - z ∨ 512 - z < (1 : Int) by omega) with h3 | h3
      · have hok : ok = true := by rw [HDEF.out, decide_eq_true h3]; rfl
        obtain ⟨n, hnz⟩ : ∃ n, n = z.toNat := ⟨_, rfl⟩
        have hzn : (n : Int) = z := by omega
        have hg3 := HGOOD.out hok
        rw [← hnz] at hg3
        obtain ⟨rfl, rfl, rfl⟩ := hg3
        subst hok
        have hnk : n < 512 := by omega
        have hpm : m = popN n := by rw [← HKN.out.1, hpl, ← hzn, popC_nat (by omega)]
        have hgs : ((n + 1 : Nat) : Int) = z + 1 := by omega
        have HGS := Lib.hid hgs
        have hlm : l.length = popN n := by rw [HKN.out.1, hpm]
        have HGL := Lib.hid (growOne_len (width := width) (leaf := leaf) hnk hlm)
        have HGA : Hid (∀ (W : World) (base p c' : Nat) (A' : Option Addr), base ≤ W.heap.size → RngAt W base p 0 z (.slice A' m c') m l → base ≤ p →
            Calls Try.prog 119 #[.pointer (some ⟨p, 0, none⟩), .int .i64 width, .string leaf] W fun e w' => ∃ A2 c2, e = .returned (.int .i64 (tz n : Nat)) ∧ RngAt w' base p 0 ((n + 1 : Nat) : Int) (.slice A2 (popN (n + 1)) c2) (popN (n + 1)) (growOne width n l leaf) ∧ Only base W.heap.size W w') :=
          Lib.hid (fun W base p c' A' h1 h5 h6 => (grow_c width n p 0 base c' A' l leaf W hwd hnk hlm hah HV.out h1 (by rw [← hpm, hzn]; exact h5)).mono fun e w' ⟨A2, c2, he, hr2, hg2⟩ => ⟨A2, c2, he, hr2, hg2.only (by rw [← hpm]; exact h5.row) h6⟩)
        have HPM := Lib.hid hpm
        clear hpl hah hpm hlm hzn hnz hgs HGOOD HBAD HDEF HRK
        go_wp2_with fail
        refine calls_named (fun w3 hw => ?_)
        have hz3 : w2.heap.size + 0 ≤ w3.heap.size := by rw [hw]; first | omega | (simp [World.setCell]; done) | (simp [World.setCell]; omega)
        have hzz3 : w.heap.size ≤ w3.heap.size := by omega
        replace HB : Hid (Below w.heap.size w w3) := by rw [Hid, hw]; exact (by ((repeat (first | ((with_reducible refine Below.alloc ?_ ?_ _); rotate_left 1; (focus (first | omega | (simp; done) | (simp; omega)))) | (with_reducible refine Below.drew ?_) | ((with_reducible refine Below.setCell ?_ ?_ _); rotate_left 1; (focus (first | omega | (simp; done) | (simp; omega)))))); exact HB.out))
        replace HOA : Hid (Rd w3 (0) (w.heap.size) (A) (strs l)) := by rw [Hid, hw]; (repeat (first | (with_reducible refine Rd.alloc ?_ _) | (with_reducible refine Rd.drew ?_) | ((with_reducible refine Rd.setCell ?_ ?_ _); rotate_left 1; (focus (first | omega | (simp; done) | (simp; omega)))))); exact HOA.out
        replace HXr : Hid (NewBox w3 (w.heap.size) [.int .i64 z, .slice A m c]) := by rw [Hid, hw]; (repeat (first | (with_reducible refine NewBox.alloc ?_ _) | (with_reducible refine NewBox.drew ?_) | ((with_reducible refine NewBox.setCell ?_ ?_ _); rotate_left 1; (focus (first | omega | (simp; done) | (simp; omega)))))); exact HXr.out
        clear hxr hfr hkr
        have hxr := HXr.out.2.1
        have hfr := HXr.out.2.2
        have hkr := HXr.out.1
        replace HXq : Hid (NewBox w3 (w.heap.size + 1) [.int .i64 0, .slice none 0 0]) := by rw [Hid, hw]; (repeat (first | (with_reducible refine NewBox.alloc ?_ _) | (with_reducible refine NewBox.drew ?_) | ((with_reducible refine NewBox.setCell ?_ ?_ _); rotate_left 1; (focus (first | omega | (simp; done) | (simp; omega)))))); exact HXq.out
        clear hxq hfq hkq
        have hxq := HXq.out.2.1
        have hfq := HXq.out.2.2
        have hkq := HXq.out.1
        clear hw
        refine (HCP.out _ HOA.out.base).mono ?_
        rintro e w4 ⟨A3, c3, rfl, hrow3, hb⟩
        have hzw4 : w3.heap.size ≤ w4.heap.size := hb.size
        have hzzw4 : w.heap.size ≤ w4.heap.size := by omega
        replace HB : Hid (Below w.heap.size w w4) := below_then HB.out hb HB.out.size
        replace HOA : Hid (Rd w4 (0) (w.heap.size) (A) (strs l)) := HOA.out.below hb
        replace HXr : Hid (NewBox w4 (w.heap.size) [.int .i64 z, .slice A m c]) := HXr.out.below hb
        clear hxr hfr hkr
        have hxr := HXr.out.2.1
        have hfr := HXr.out.2.2
        have hkr := HXr.out.1
        replace HXq : Hid (NewBox w4 (w.heap.size + 1) [.int .i64 0, .slice none 0 0]) := HXq.out.below hb
        clear hxq hfq hkq
        have hxq := HXq.out.2.1
        have hfq := HXq.out.2.2
        have hkq := HXq.out.1
        clear hb
        have HROW3 := Lib.hid hrow3
        have hb3 : w.heap.size + 2 ≤ w3.heap.size := by omega
        clear hrow3
        go_wp2_with fail
        refine calls_named (fun w10 hw => ?_)
        have hR10 : RngAt w10 w3.heap.size w4.heap.size 0 z (.slice A3 m c3) m l := by rw [hw]; exact rng_new _ (by decide) HROW3.out
        have hb10 : Below w4.heap.size w4 w10 := by rw [hw]; exact (Below.refl _ _).alloc (Nat.le_refl _) _
        have HR10 := Lib.hid hR10
        have hpc : w3.heap.size ≤ w4.heap.size := hzw4
        have hpz : w4.heap.size < w10.heap.size := hR10.typed.lt
        clear hw hR10
        have hzw10 : w4.heap.size ≤ w10.heap.size := hb10.size
        have hzzw10 : w.heap.size ≤ w10.heap.size := by omega
        replace HB : Hid (Below w.heap.size w w10) := below_then HB.out hb10 HB.out.size
        replace HOA : Hid (Rd w10 (0) (w.heap.size) (A) (strs l)) := HOA.out.below hb10
        replace HXr : Hid (NewBox w10 (w.heap.size) [.int .i64 z, .slice A m c]) := HXr.out.below hb10
        clear hxr hfr hkr
        have hxr := HXr.out.2.1
        have hfr := HXr.out.2.2
        have hkr := HXr.out.1
        replace HXq : Hid (NewBox w10 (w.heap.size + 1) [.int .i64 0, .slice none 0 0]) := HXq.out.below hb10
        clear hxq hfq hkq
        have hxq := HXq.out.2.1
        have hfq := HXq.out.2.2
        have hkq := HXq.out.1
        clear hb10
        refine (HGA.out _ _ _ _ _ (by omega) HR10.out hpc).mono ?_
        rintro e w11 ⟨A11, c11, rfl, hR11, hon⟩
        have HR11 := Lib.hid hR11
        have hc0 := hR11.c0
        have hc1 := hR11.c1
        clear hR11
        clear HOA
        have hzw11 : w10.heap.size ≤ w11.heap.size := hon.size
        have hzzw11 : w.heap.size ≤ w11.heap.size := by omega
        replace HB : Hid (Below w.heap.size w w11) := below_only HB.out hon (by omega) HB.out.size
        replace HXr : Hid (NewBox w11 (w.heap.size) [.int .i64 z, .slice A m c]) := HXr.out.only hon (by first | omega | (simp; omega))
        clear hxr hfr hkr
        have hxr := HXr.out.2.1
        have hfr := HXr.out.2.2
        have hkr := HXr.out.1
        replace HXq : Hid (NewBox w11 (w.heap.size + 1) [.int .i64 0, .slice none 0 0]) := HXq.out.only hon (by first | omega | (simp; omega))
        clear hxq hfq hkq
        have hxq := HXq.out.2.1
        have hfq := HXq.out.2.2
        have hkq := HXq.out.1
        clear hon HGA HR10
        have HOR : Hid (Own w11 (w3.heap.size) (w11.heap.size) (A11) (strs (growOne width n l leaf))) := Own.of_ownsRow HR11.out.row
        go_wp2
        refine bodyPost_named (fun w5 hw => ?_)
        have hz5 : w11.heap.size + 0 ≤ w5.heap.size := by rw [hw]; first | omega | (simp [World.setCell]; done) | (simp [World.setCell]; omega)
        have hzz5 : w.heap.size ≤ w5.heap.size := by omega
        replace HB : Hid (Below w.heap.size w w5) := by rw [Hid, hw]; exact (by ((repeat (first | ((with_reducible refine Below.alloc ?_ ?_ _); rotate_left 1; (focus (first | omega | (simp; done) | (simp; omega)))) | (with_reducible refine Below.drew ?_) | ((with_reducible refine Below.setCell ?_ ?_ _); rotate_left 1; (focus (first | omega | (simp; done) | (simp; omega)))))); exact HB.out))
        replace HOR : Hid (Own w5 (w3.heap.size) (w11.heap.size) (A11) (strs (growOne width n l leaf))) := by rw [Hid, hw]; (repeat (first | (with_reducible refine Own.alloc ?_ _) | (with_reducible refine Own.drew ?_) | ((with_reducible refine Own.setCell ?_ ?_ _); rotate_left 1; (focus (first | omega | (simp; done) | (simp; omega)))))); exact HOR.out
        replace HXr : Hid (NewBox w5 (w.heap.size) [.int .i64 z, .slice A m c]) := by rw [Hid, hw]; (repeat (first | (with_reducible refine NewBox.alloc ?_ _) | (with_reducible refine NewBox.drew ?_) | ((with_reducible refine NewBox.setCell ?_ ?_ _); rotate_left 1; (focus (first | omega | (simp; done) | (simp; omega)))))); exact HXr.out
        clear hxr hfr hkr
        have hxr := HXr.out.2.1
        have hfr := HXr.out.2.2
        have hkr := HXr.out.1
        replace HXq : Hid (NewBox w5 (w.heap.size + 1) [.int .i64 ((n + 1 : Nat) : Int), .slice A11 (popN (n + 1)) c11]) := by rw [Hid, hw]; apply NewBox.cast; (focus ((repeat (first | (with_reducible apply NewBox.alloc) | (with_reducible apply NewBox.drew) | (with_reducible apply NewBox.set1) | ((with_reducible apply NewBox.far); (focus (first | omega | (simp; done) | (simp; omega)))))); exact HXq.out)); rfl
        clear hxq hfq hkq
        have hxq := HXq.out.2.1
        have hfq := HXq.out.2.2
        have hkq := HXq.out.1
        clear hw
        refine bodyPost_ret (v := .tuple #[.agg #[.int .i64 ((n + 1 : Nat) : Int), .slice A11 (popN (n + 1)) c11], .int .i64 (tz n : Nat), .bool true]) (by simp [results, Try.results67, go_sem, hxq]) rfl ?_
        exact ⟨A11, c11, by rw [HGS.out, HGL.out], HOR.out.mono (by omega) (by omega) (Nat.le_refl _), HB.out⟩
      · obtain ⟨rfl, rfl, rfl⟩ := HBAD.out (by rw [HDEF.out, decide_eq_false (by omega)]; rfl)
        have hz0 : ok = false := by rw [HDEF.out, decide_eq_false (by omega)]; rfl
        subst hz0
        go_wp2
        refine bodyPost_named (fun w3 hw => ?_)
        have hz3 : w2.heap.size + 0 ≤ w3.heap.size := by rw [hw]; first | omega | (simp [World.setCell]; done) | (simp [World.setCell]; omega)
        have hzz3 : w.heap.size ≤ w3.heap.size := by omega
        replace HB : Hid (Below w.heap.size w w3) := by rw [Hid, hw]; exact (by ((repeat (first | ((with_reducible refine Below.alloc ?_ ?_ _); rotate_left 1; (focus (first | omega | (simp; done) | (simp; omega)))) | (with_reducible refine Below.drew ?_) | ((with_reducible refine Below.setCell ?_ ?_ _); rotate_left 1; (focus (first | omega | (simp; done) | (simp; omega)))))); exact HB.out))
        replace HOA : Hid (Rd w3 (0) (w.heap.size) (A) (strs l)) := by rw [Hid, hw]; (repeat (first | (with_reducible refine Rd.alloc ?_ _) | (with_reducible refine Rd.drew ?_) | ((with_reducible refine Rd.setCell ?_ ?_ _); rotate_left 1; (focus (first | omega | (simp; done) | (simp; omega)))))); exact HOA.out
        replace HXr : Hid (NewBox w3 (w.heap.size) [.int .i64 z, .slice A m c]) := by rw [Hid, hw]; (repeat (first | (with_reducible refine NewBox.alloc ?_ _) | (with_reducible refine NewBox.drew ?_) | ((with_reducible refine NewBox.setCell ?_ ?_ _); rotate_left 1; (focus (first | omega | (simp; done) | (simp; omega)))))); exact HXr.out
        clear hxr hfr hkr
        have hxr := HXr.out.2.1
        have hfr := HXr.out.2.2
        have hkr := HXr.out.1
        replace HXq : Hid (NewBox w3 (w.heap.size + 1) [.int .i64 0, .slice none 0 0]) := by rw [Hid, hw]; apply NewBox.cast; (focus ((repeat (first | (with_reducible apply NewBox.alloc) | (with_reducible apply NewBox.drew) | (with_reducible apply NewBox.set1) | ((with_reducible apply NewBox.far); (focus (first | omega | (simp; done) | (simp; omega)))))); exact HXq.out)); rfl
        clear hxq hfq hkq
        have hxq := HXq.out.2.1
        have hfq := HXq.out.2.2
        have hkq := HXq.out.1
        clear hw
        refine bodyPost_ret (v := .tuple #[.agg #[.int .i64 0, .slice none 0 0], .int .i64 0, .bool false]) (by simp [results, Try.results67, go_sem, hxq]) rfl ?_
        exact ⟨none, 0, rfl, Own.nil, HB.out⟩
set_option maxRecDepth 100000 in
set_option maxHeartbeats 4000000 in
theorem implRangeOf_c (width : Int) (X : Option Addr) (g lo' hi' k0 : Nat) (leaves : List ByteArray) (w : World) (hX : Rd w lo' hi' X (strs leaves)) (hk : leaves.length = k0) (hkl : k0 ≤ 1048576) :
    Calls Try.prog 59 #[.int .i64 width, .slice X k0 g] w fun e w' => ∃ A' c', e = .returned (.tuple #[.agg #[.int .i64 (gSize width 0 [] leaves), .slice A' (gPeaks width 0 [] leaves).length c'], .bool (growOk width 0 [] leaves)]) ∧
      Own w' w.heap.size w'.heap.size A' (strs (gPeaks width 0 [] leaves)) ∧ Below w.heap.size w w' := by
  have HGA := Lib.hid (fun W (h : Rd W 0 W.heap.size X (strs leaves)) => implGrowAll_c width 0 none 0 0 0 0 [] X g 0 W.heap.size k0 leaves W Rd.nil rfl (by omega) (fun _ => rfl) h hk hkl ⟨by decide, by decide⟩)
  generalize growOk width 0 [] leaves = ok at *
  generalize gSize width 0 [] leaves = gs at *
  generalize gPeaks width 0 [] leaves = gp at *
  generalize gCalls width 0 [] leaves = gc at *
  have HB : Hid (Below w.heap.size w w) := Below.refl _ _
  have HOX : Hid (Rd w (0) (w.heap.size) (X) (strs leaves)) := Rd.base hX
  clear hX hk
  go_enter Try.func59, Try.ntmps59
  go_wp2_with fail
  refine calls_named (fun w1 hw => ?_)
  have hz1 : w.heap.size + 1 ≤ w1.heap.size := by rw [hw]; first | omega | (simp [World.setCell]; done) | (simp [World.setCell]; omega)
  have hzz1 : w.heap.size ≤ w1.heap.size := by omega
  replace HB : Hid (Below w.heap.size w w1) := by rw [Hid, hw]; exact (by ((repeat (first | ((with_reducible refine Below.alloc ?_ ?_ _); rotate_left 1; (focus (first | omega | (simp; done) | (simp; omega)))) | (with_reducible refine Below.drew ?_) | ((with_reducible refine Below.setCell ?_ ?_ _); rotate_left 1; (focus (first | omega | (simp; done) | (simp; omega)))))); exact HB.out))
  replace HOX : Hid (Rd w1 (0) (w.heap.size) (X) (strs leaves)) := by rw [Hid, hw]; (repeat (first | (with_reducible refine Rd.alloc ?_ _) | (with_reducible refine Rd.drew ?_) | ((with_reducible refine Rd.setCell ?_ ?_ _); rotate_left 1; (focus (first | omega | (simp; done) | (simp; omega)))))); exact HOX.out
  have HXq : Hid (NewBox w1 (w.heap.size) [.int .i64 0, .slice none 0 0]) := by rw [Hid, hw]; exact ⟨by first | omega | (simp [World.setCell]; done) | (simp [World.setCell]; omega), fun o => by rcases o with _ | _ | o <;> go_simp, fun o => by go_simp⟩
  have hxq := HXq.out.2.1
  have hfq := HXq.out.2.2
  have hkq := HXq.out.1
  clear hw
  refine (HGA.out _ HOX.out.base).mono ?_
  rintro e w2 ⟨A3, c3, rfl, hown3, hb⟩
  have hzw2 : w1.heap.size ≤ w2.heap.size := hb.size
  have hzzw2 : w.heap.size ≤ w2.heap.size := by omega
  replace HB : Hid (Below w.heap.size w w2) := below_then HB.out hb HB.out.size
  replace HOX : Hid (Rd w2 (0) (w.heap.size) (X) (strs leaves)) := HOX.out.below hb
  replace HXq : Hid (NewBox w2 (w.heap.size) [.int .i64 0, .slice none 0 0]) := HXq.out.below hb
  clear hxq hfq hkq
  have hxq := HXq.out.2.1
  have hfq := HXq.out.2.2
  have hkq := HXq.out.1
  clear hb
  have HOR : Hid (Own w2 (w1.heap.size) (w2.heap.size) (A3) (strs gp)) := hown3
  have hb3 : w.heap.size + 1 ≤ w1.heap.size := by omega
  clear hown3
  go_wp2
  refine bodyPost_named (fun w3 hw => ?_)
  have hz3 : w2.heap.size + 1 ≤ w3.heap.size := by rw [hw]; first | omega | (simp [World.setCell]; done) | (simp [World.setCell]; omega)
  have hzz3 : w.heap.size ≤ w3.heap.size := by omega
  replace HB : Hid (Below w.heap.size w w3) := by rw [Hid, hw]; exact (by ((repeat (first | ((with_reducible refine Below.alloc ?_ ?_ _); rotate_left 1; (focus (first | omega | (simp; done) | (simp; omega)))) | (with_reducible refine Below.drew ?_) | ((with_reducible refine Below.setCell ?_ ?_ _); rotate_left 1; (focus (first | omega | (simp; done) | (simp; omega)))))); exact HB.out))
  replace HOX : Hid (Rd w3 (0) (w.heap.size) (X) (strs leaves)) := by rw [Hid, hw]; (repeat (first | (with_reducible refine Rd.alloc ?_ _) | (with_reducible refine Rd.drew ?_) | ((with_reducible refine Rd.setCell ?_ ?_ _); rotate_left 1; (focus (first | omega | (simp; done) | (simp; omega)))))); exact HOX.out
  replace HOR : Hid (Own w3 (w1.heap.size) (w2.heap.size) (A3) (strs gp)) := by rw [Hid, hw]; (repeat (first | (with_reducible refine Own.alloc ?_ _) | (with_reducible refine Own.drew ?_) | ((with_reducible refine Own.setCell ?_ ?_ _); rotate_left 1; (focus (first | omega | (simp; done) | (simp; omega)))))); exact HOR.out
  replace HXq : Hid (NewBox w3 (w.heap.size) [.int .i64 gs, .slice A3 gp.length c3]) := by rw [Hid, hw]; apply NewBox.cast; (focus ((repeat (first | (with_reducible apply NewBox.alloc) | (with_reducible apply NewBox.drew) | (with_reducible apply NewBox.set1) | ((with_reducible apply NewBox.far); (focus (first | omega | (simp; done) | (simp; omega)))))); exact HXq.out)); rfl
  clear hxq hfq hkq
  have hxq := HXq.out.2.1
  have hfq := HXq.out.2.2
  have hkq := HXq.out.1
  have HXv : Hid (NewBox w3 (w2.heap.size) [.int .i64 gs, .slice A3 gp.length c3]) := by rw [Hid, hw]; exact ⟨by first | omega | (simp [World.setCell]; done) | (simp [World.setCell]; omega), fun o => by rcases o with _ | _ | o <;> go_simp, fun o => by go_simp⟩
  have hxv := HXv.out.2.1
  have hfv := HXv.out.2.2
  have hkv := HXv.out.1
  clear hw
  refine bodyPost_ret (v := .tuple #[.agg #[.int .i64 gs, .slice A3 gp.length c3], .bool ok]) (by simp [results, Try.results59, go_sem, hxq]) rfl ?_
  exact ⟨A3, c3, rfl, HOR.out.mono (by omega) (by omega) (Nat.le_refl _), HB.out⟩
end Go.Proofs.Ytojjjhbiccgjkaa
