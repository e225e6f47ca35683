/- SealMore of the program: the function itself. -/
import Derived.Test.YtoccjgcokffkbaaSealI
namespace Go.Proofs.Ytoccjgcokffkbaa
set_option linter.unusedVariables false
set_option linter.unusedSimpArgs false
open Go.RowKit

theorem rng_box {w : World} {base o m : Nat} {n : Int} {v : Value} {l : List ByteArray} (cs : Array Value) (T : TypeId) (hT : T ≠ 9) (h : w.ownsRow base 9 1 v m (strs l)) (h0 : cs.toList[o]? = some (.int .i64 n)) (h1 : cs.toList[o + 1]? = some v) :
  RngAt (w.alloc (.cells cs T)) base w.heap.size o n v m l := by
 have hx := NewBox.new w cs T
 exact ⟨⟨_, T, heap_alloc_new w _, hT⟩, hx.cell (o := o) h0, hx.cell (o := o + 1) h1, h.alloc _⟩
theorem more_sm (width z1 z2 : Int) (p base B0 c1 c2 m1 m2 : Nat) (A1 A2 : Option Addr) (l1 l2 : List ByteArray) (h : Hd) (X1 X2 : Option Addr) (g1 g2 k1 k2 : Nat) (L T : List ByteArray) (w : World) (hq1 : rngOk width z1 l1 = true) (hq2 : rngOk width z2 l2 = true) (hm1 : l1.length = m1) (hm2 : l2.length = m2)
  (hk1 : L.length = k1) (hv1 : areH width L = true) (hk2 : T.length = k2) (hv2 : areH width T = true) (hf1 : (k1 : Int) ≤ 512 - z1) (hf2 : (k2 : Int) ≤ 512 - z2) (hbase : base ≤ w.heap.size) (hB1 : B0 ≤ p) (hB2 : B0 ≤ base) (hbp : base ≤ p) (hX1 : Rd w 0 B0 X1 (strs L)) (hX2 : Rd w 0 B0 X2 (strs T))
  (hR1 : RngAt w base p 0 z1 (.slice A1 m1 c1) m1 l1) (hR2 : RngAt w base p 2 z2 (.slice A2 m2 c2) m2 l2) (hap : Apart (.slice A1 m1 c1) (.slice A2 m2 c2))
  (hnum : 0 ≤ h.num ∧ h.num ≤ 399) (hc4 : w.cell? ⟨p, 4, none⟩ = some (.int .i64 h.num)) (hcs : ∀ j, 4 ≤ j → j < 9 → ∃ v, w.cell? ⟨p, j, none⟩ = some v) :
  Calls Try.prog 65 #[.pointer (some ⟨p, 0, none⟩), .int .i64 width, .slice X1 k1 g1, .slice X2 k2 g2] w fun e w' => ∃ A3 c3 A4 c4, e = .returned (.int .i64 ((callsUp z1.toNat k1 + callsUp z2.toNat k2 + rngMade (smP width z1 l1 L) + rngMade (smP width z2 l2 T) : Nat) : Int)) ∧
   RngAt w' base p 0 (z1 + k1) (.slice A3 (smP width z1 l1 L).length c3) (smP width z1 l1 L).length (smP width z1 l1 L) ∧ RngAt w' base p 2 (z2 + k2) (.slice A4 (smP width z2 l2 T).length c4) (smP width z2 l2 T).length (smP width z2 l2 T) ∧
   Apart (.slice A3 (smP width z1 l1 L).length c3) (.slice A4 (smP width z2 l2 T).length c4) ∧ w'.cell? ⟨p, 4, none⟩ = some (.int .i64 (h.num + 1)) ∧ w'.cell? ⟨p, 5, none⟩ = some (.int .i64 (z1 + k1)) ∧ w'.cell? ⟨p, 6, none⟩ = some (.string (rngRoot width (smP width z1 l1 L))) ∧
   w'.cell? ⟨p, 7, none⟩ = some (.int .i64 (z2 + k2)) ∧ w'.cell? ⟨p, 8, none⟩ = some (.string (rngRoot width (smP width z2 l2 T))) ∧ Only base w.heap.size w w' := by
 obtain ⟨a1, a2, a3, a4, a5⟩ := rngOk_all hq1
 obtain ⟨b1, b2, b3, b4, b5⟩ := rngOk_all hq2
 have h7 : l1.length = popN z1.toNat := by rw [a3, ← popC_nat (by omega)]; congr 1; omega
 have h8 : l2.length = popN z2.toNat := by rw [b3, ← popC_nat (by omega)]; congr 1; omega
 have e1 : ((z1.toNat : Nat) : Int) = z1 := by omega
 have e2 : ((z2.toNat : Nat) : Int) = z2 := by omega
 have hp1 : m1 = popN z1.toNat := by omega
 have hp2 : m2 = popN z2.toNat := by omega
 have s1 : smP width z1 l1 L = growUp width z1.toNat l1 L k1 := by rw [smP, hk1]
 have s2 : smP width z2 l2 T = growUp width z2.toNat l2 T k2 := by rw [smP, hk2]
 have t1 := growUp_len (width := width) (leaves := L) h7 (k := k1) (by omega)
 have t2 := growUp_len (width := width) (leaves := T) h8 (k := k2) (by omega)
 have f1 : ((z1.toNat + k1 : Nat) : Int) = z1 + k1 := by omega
 have f2 : ((z2.toNat + k2 : Nat) : Int) = z2 + k2 := by omega
 have H := more_c width z1.toNat z2.toNat p base B0 c1 c2 A1 A2 l1 l2 h X1 X2 g1 g2 k1 k2 L T w a5 h7 a4 h8 b4 hk1 hv1 hk2 hv2 (by omega) (by omega) hbase hB1 hB2 hbp hX1 hX2 (by rw [e1, ← hp1]; exact hR1) (by rw [e2, ← hp2]; exact hR2) (by rw [← hp1, ← hp2]; exact hap) hnum hc4 hcs
 rw [s1, s2, t1, t2]
 rw [f1, f2] at H
 exact H
set_option maxRecDepth 100000 in
set_option maxHeartbeats 4000000 in
theorem implSealMore_c (width z1 z2 : Int) (A1 A2 : Option Addr) (c1 c2 lo1 hi1 lo2 hi2 m1 m2 : Nat) (l1 l2 : List ByteArray) (h : Hd) (X1 X2 : Option Addr) (g1 g2 lo3 hi3 lo4 hi4 k1 k2 : Nat) (L T : List ByteArray) (w : World)
  (hR1 : Rd w lo1 hi1 A1 (strs l1)) (hR2 : Rd w lo2 hi2 A2 (strs l2)) (hX1 : Rd w lo3 hi3 X1 (strs L)) (hX2 : Rd w lo4 hi4 X2 (strs T)) (hn1 : l1.length = m1) (hn2 : l2.length = m2) (hk1 : L.length = k1) (hk2 : T.length = k2)
  (hm1 : m1 ≤ 1048576) (hm2 : m2 ≤ 1048576) (hm3 : k1 ≤ 1048576) (hm4 : k2 ≤ 1048576) (hA1 : A1 = none → c1 = 0) (hA2 : A2 = none → c2 = 0) (hI1 : I64 z1) (hI2 : I64 z2) (hz : h.bulk ≤ 1048576) :
  Calls Try.prog 25 #[.int .i64 width, .agg #[.int .i64 z1, .slice A1 m1 c1, .int .i64 z2, .slice A2 m2 c2, .int .i64 h.num, .int .i64 h.size, .string h.root, .int .i64 h.taken, .string h.troot], .slice X1 k1 g1, .slice X2 k2 g2] w fun e w' => SmPost w (smZ1 width z1 l1 z2 l2 h L T) (smL1 width z1 l1 z2 l2 h L T) (smZ2 width z1 l1 z2 l2 h L T) (smL2 width z1 l1 z2 l2 h L T) (smH width z1 l1 z2 l2 h L T) (smN width z1 l1 z2 l2 h L T) (smCode width z1 l1 z2 l2 h L T) e w' := by
 have HSO := Lib.hid (fun W (r1 : Rd W 0 W.heap.size A1 (strs l1)) (r2 : Rd W 0 W.heap.size A2 (strs l2)) => implSealOk_c width z1 z2 A1 A2 c1 c2 0 W.heap.size 0 W.heap.size m1 m2 l1 l2 h W r1 r2 hn1 hn2 hm1 hm2 hz)
 have HH1 := Lib.hid (fun W (r : Rd W 0 W.heap.size X1 (strs L)) => areHashes_c width X1 g1 0 W.heap.size k1 L W r hk1 hm3)
 have HH2 := Lib.hid (fun W (r : Rd W 0 W.heap.size X2 (strs T)) => areHashes_c width X2 g2 0 W.heap.size k2 T W r hk2 hm4)
 have HCP := Lib.hid (fun W (r1 : Rd W 0 W.heap.size A1 (strs l1)) (r2 : Rd W 0 W.heap.size A2 (strs l2)) => copySeal_c z1 z2 A1 A2 c1 c2 0 W.heap.size 0 W.heap.size m1 m2 l1 l2 h W r1 r2 hn1 hn2 hm1 hm2 hA1 hA2)
 have HOK : Hid (smOk width z1 l1 z2 l2 h L T = (sealOk width z1 l1 z2 l2 h && areH width L && areH width T && smFit z1 z2 h k1 k2)) := Lib.hid (by rw [smOk, hk1, hk2])
 have HCD : Hid (smCode width z1 l1 z2 l2 h L T = if sealOk width z1 l1 z2 l2 h = false then 1 else if areH width L = false then 2 else if areH width T = false then 3 else if smFit z1 z2 h k1 k2 = false then 4 else 0) := Lib.hid (by rw [smCode, hk1, hk2])
 have HFIT : Hid (smFit z1 z2 h k1 k2 = (decide ((k1 : Int) ≤ 512 - z1) && decide ((k2 : Int) ≤ 512 - z2) && !(h.num == 399))) := Lib.hid rfl
 have HBD := Lib.hid (fun hb => sm_bad (width := width) (z1 := z1) (z2 := z2) (l1 := l1) (l2 := l2) (h := h) (L := L) (T := T) hb)
 have HGD := Lib.hid (fun hb => sm_good (width := width) (z1 := z1) (z2 := z2) (l1 := l1) (l2 := l2) (h := h) (L := L) (T := T) hb)
 rw [hk1, hk2] at HGD
 have HK := Lib.hid (And.intro hk1 (And.intro hk2 (And.intro hn1 hn2)))
 have HX1 := Lib.hid hX1.base
 have HX2 := Lib.hid hX2.base
 generalize smZ1 width z1 l1 z2 l2 h L T = s1 at *
 generalize smL1 width z1 l1 z2 l2 h L T = p1 at *
 generalize smZ2 width z1 l1 z2 l2 h L T = s2 at *
 generalize smL2 width z1 l1 z2 l2 h L T = p2 at *
 generalize smH width z1 l1 z2 l2 h L T = sh at *
 generalize smN width z1 l1 z2 l2 h L T = sn at *
 generalize smCode width z1 l1 z2 l2 h L T = sc at *
 generalize smOk width z1 l1 z2 l2 h L T = ok at *
 have HB : Hid (Below w.heap.size w w) := Below.refl _ _
 have HOA : Hid (Rd w (0) (w.heap.size) (A1) (strs l1)) := Rd.base hR1
 have HOB : Hid (Rd w (0) (w.heap.size) (A2) (strs l2)) := Rd.base hR2
 have HOX : Hid (Rd w (0) (w.heap.size) (X1) (strs L)) := Rd.base hX1
 have HOY : Hid (Rd w (0) (w.heap.size) (X2) (strs T)) := Rd.base hX2
 clear hR1 hR2 hX1 hX2 hn1 hn2 hk1 hk2 hA1 hA2
 go_enter Try.func25, Try.ntmps25
 go_wp2_with fail
 refine calls_named (fun w1 hw => ?_)
 have hz1 : w.heap.size + 2 ≤ w1.heap.size := by rw [hw]; first | omega | (simp [World.setCell]; done) | (simp [World.setCell]; omega)
 have hzz1 : w.heap.size ≤ w1.heap.size := by omega
 have hbn : Below w.heap.size w w1 := by rw [hw]; exact (by ((repeat (first | ((with_reducible refine Below.alloc ?_ ?_ _); rotate_left 1; (focus (first | omega | (simp; done) | (simp; omega)))) | (with_reducible refine Below.drew ?_) | ((with_reducible refine Below.setCell ?_ ?_ _); rotate_left 1; (focus (first | omega | (simp; done) | (simp; omega)))))); exact Below.refl _ _))
 replace HB := Lib.hid (below_then HB.out hbn HB.out.size)
 replace HOA := Lib.hid (HOA.out.below hbn)
 replace HOB := Lib.hid (HOB.out.below hbn)
 replace HOX := Lib.hid (HOX.out.below hbn)
 replace HOY := Lib.hid (HOY.out.below hbn)
 clear hbn
 have HXs : Hid (NewBox w1 (w.heap.size) [.int .i64 z1, .slice A1 m1 c1, .int .i64 z2, .slice A2 m2 c2, .int .i64 h.num, .int .i64 h.size, .string h.root, .int .i64 h.taken, .string h.troot]) := by rw [Hid, hw]; exact ⟨by first | omega | (simp [World.setCell]; done) | (simp [World.setCell]; omega), fun o => by rcases o with _ | _ | _ | _ | _ | _ | _ | _ | _ | o <;> go_simp, fun o => by go_simp⟩
 have hxs := HXs.out.2.1
 have hfs := HXs.out.2.2
 have hks := HXs.out.1
 have HXq : Hid (NewBox w1 (w.heap.size + 1) [.int .i64 0, .slice none 0 0, .int .i64 0, .slice none 0 0, .int .i64 0, .int .i64 0, .string ⟨#[]⟩, .int .i64 0, .string ⟨#[]⟩]) := by rw [Hid, hw]; exact ⟨by first | omega | (simp [World.setCell]; done) | (simp [World.setCell]; omega), fun o => by rcases o with _ | _ | _ | _ | _ | _ | _ | _ | _ | o <;> go_simp, fun o => by go_simp⟩
 have hxq := HXq.out.2.1
 have hfq := HXq.out.2.2
 have hkq := HXq.out.1
 clear hw
 refine (HSO.out _ HOA.out.base HOB.out.base).mono ?_
 rintro e w2 ⟨rfl, hb⟩
 have hzw2 : w1.heap.size ≤ w2.heap.size := hb.size
 have hzzw2 : w.heap.size ≤ w2.heap.size := by omega
 replace HB := Lib.hid (below_then HB.out hb HB.out.size)
 replace HOA := Lib.hid (HOA.out.below hb)
 replace HOB := Lib.hid (HOB.out.below hb)
 replace HOX := Lib.hid (HOX.out.below hb)
 replace HOY := Lib.hid (HOY.out.below hb)
 replace HXs := Lib.hid (HXs.out.below hb)
 clear hxs hfs hks
 have hxs := HXs.out.2.1
 have hfs := HXs.out.2.2
 have hks := HXs.out.1
 replace HXq := Lib.hid (HXq.out.below hb)
 clear hxq hfq hkq
 have hxq := HXq.out.2.1
 have hfq := HXq.out.2.2
 have hkq := HXq.out.1
 clear hb
 rcases hq1 : sealOk width z1 l1 z2 l2 h with _ | _
 ·skip
  have hz0 : ok = false := by rw [HOK.out, hq1]; simp
  obtain ⟨rfl, rfl, rfl, rfl, rfl, rfl⟩ := HBD.out hz0
  have hsc : sc = 1 := by rw [HCD.out, hq1, if_pos rfl]
  subst hsc
  clear HOK HCD HBD HGD hz0 hq1
  go_wp2
  refine bodyPost_named (fun w3 hw => ?_)
  have hz3 : w2.heap.size + 0 ≤ w3.heap.size := by rw [hw]; first | omega | (simp [World.setCell]; done) | (simp [World.setCell]; omega)
  have hzz3 : w.heap.size ≤ w3.heap.size := by omega
  replace HB : Hid (Below w.heap.size w w3) := by rw [Hid, hw]; exact (by ((repeat (first | ((with_reducible refine Below.alloc ?_ ?_ _); rotate_left 1; (focus (first | omega | (simp; done) | (simp; omega)))) | (with_reducible refine Below.drew ?_) | ((with_reducible refine Below.setCell ?_ ?_ _); rotate_left 1; (focus (first | omega | (simp; done) | (simp; omega)))))); exact HB.out))
  replace HOA : Hid (Rd w3 (0) (w.heap.size) (A1) (strs l1)) := by rw [Hid, hw]; (repeat (first | (with_reducible refine Rd.alloc ?_ _) | (with_reducible refine Rd.drew ?_) | ((with_reducible refine Rd.setCell ?_ ?_ _); rotate_left 1; (focus (first | omega | (simp; done) | (simp; omega)))))); exact HOA.out
  replace HOB : Hid (Rd w3 (0) (w.heap.size) (A2) (strs l2)) := by rw [Hid, hw]; (repeat (first | (with_reducible refine Rd.alloc ?_ _) | (with_reducible refine Rd.drew ?_) | ((with_reducible refine Rd.setCell ?_ ?_ _); rotate_left 1; (focus (first | omega | (simp; done) | (simp; omega)))))); exact HOB.out
  replace HOX : Hid (Rd w3 (0) (w.heap.size) (X1) (strs L)) := by rw [Hid, hw]; (repeat (first | (with_reducible refine Rd.alloc ?_ _) | (with_reducible refine Rd.drew ?_) | ((with_reducible refine Rd.setCell ?_ ?_ _); rotate_left 1; (focus (first | omega | (simp; done) | (simp; omega)))))); exact HOX.out
  replace HOY : Hid (Rd w3 (0) (w.heap.size) (X2) (strs T)) := by rw [Hid, hw]; (repeat (first | (with_reducible refine Rd.alloc ?_ _) | (with_reducible refine Rd.drew ?_) | ((with_reducible refine Rd.setCell ?_ ?_ _); rotate_left 1; (focus (first | omega | (simp; done) | (simp; omega)))))); exact HOY.out
  replace HXs : Hid (NewBox w3 (w.heap.size) [.int .i64 z1, .slice A1 m1 c1, .int .i64 z2, .slice A2 m2 c2, .int .i64 h.num, .int .i64 h.size, .string h.root, .int .i64 h.taken, .string h.troot]) := by rw [Hid, hw]; (repeat (first | (with_reducible refine NewBox.alloc ?_ _) | (with_reducible refine NewBox.drew ?_) | ((with_reducible refine NewBox.setCell ?_ ?_ _); rotate_left 1; (focus (first | omega | (simp; done) | (simp; omega)))))); exact HXs.out
  clear hxs hfs hks
  have hxs := HXs.out.2.1
  have hfs := HXs.out.2.2
  have hks := HXs.out.1
  replace HXq : Hid (NewBox w3 (w.heap.size + 1) [.int .i64 0, .slice none 0 0, .int .i64 0, .slice none 0 0, .int .i64 0, .int .i64 0, .string ⟨#[]⟩, .int .i64 0, .string ⟨#[]⟩]) := by rw [Hid, hw]; apply NewBox.cast; (focus ((repeat (first | (with_reducible apply NewBox.alloc) | (with_reducible apply NewBox.drew) | (with_reducible apply NewBox.set1) | ((with_reducible apply NewBox.far); (focus (first | omega | (simp; done) | (simp; omega)))))); exact HXq.out)); rfl
  clear hxq hfq hkq
  have hxq := HXq.out.2.1
  have hfq := HXq.out.2.2
  have hkq := HXq.out.1
  clear hw
  refine bodyPost_ret (v := .tuple #[.agg #[.int .i64 0, .slice none 0 0, .int .i64 0, .slice none 0 0, .int .i64 0, .int .i64 0, .string ⟨#[]⟩, .int .i64 0, .string ⟨#[]⟩], .int .i64 0, .int .i64 1]) (by simp [results, Try.results25, go_sem, hxq]) rfl ?_
  exact smBad_post HB.out _
 have HQ1 := Lib.hid hq1
 rw [hq1, if_neg (by decide)] at HCD
 rw [hq1] at HOK
 clear hq1
 go_wp2_with fail
 refine (HH1.out _ HOX.out.base).mono ?_
 rintro e w3_ ⟨rfl, rfl⟩
 rcases hq2 : areH width L with _ | _
 ·skip
  have hz0 : ok = false := by rw [HOK.out, hq2]; simp
  obtain ⟨rfl, rfl, rfl, rfl, rfl, rfl⟩ := HBD.out hz0
  have hsc : sc = 2 := by rw [HCD.out, hq2, if_pos rfl]
  subst hsc
  clear HOK HCD HBD HGD hz0 hq2
  go_wp2
  refine bodyPost_named (fun w4 hw => ?_)
  have hz4 : w2.heap.size + 0 ≤ w4.heap.size := by rw [hw]; first | omega | (simp [World.setCell]; done) | (simp [World.setCell]; omega)
  have hzz4 : w.heap.size ≤ w4.heap.size := by omega
  replace HB : Hid (Below w.heap.size w w4) := by rw [Hid, hw]; exact (by ((repeat (first | ((with_reducible refine Below.alloc ?_ ?_ _); rotate_left 1; (focus (first | omega | (simp; done) | (simp; omega)))) | (with_reducible refine Below.drew ?_) | ((with_reducible refine Below.setCell ?_ ?_ _); rotate_left 1; (focus (first | omega | (simp; done) | (simp; omega)))))); exact HB.out))
  replace HOA : Hid (Rd w4 (0) (w.heap.size) (A1) (strs l1)) := by rw [Hid, hw]; (repeat (first | (with_reducible refine Rd.alloc ?_ _) | (with_reducible refine Rd.drew ?_) | ((with_reducible refine Rd.setCell ?_ ?_ _); rotate_left 1; (focus (first | omega | (simp; done) | (simp; omega)))))); exact HOA.out
  replace HOB : Hid (Rd w4 (0) (w.heap.size) (A2) (strs l2)) := by rw [Hid, hw]; (repeat (first | (with_reducible refine Rd.alloc ?_ _) | (with_reducible refine Rd.drew ?_) | ((with_reducible refine Rd.setCell ?_ ?_ _); rotate_left 1; (focus (first | omega | (simp; done) | (simp; omega)))))); exact HOB.out
  replace HOX : Hid (Rd w4 (0) (w.heap.size) (X1) (strs L)) := by rw [Hid, hw]; (repeat (first | (with_reducible refine Rd.alloc ?_ _) | (with_reducible refine Rd.drew ?_) | ((with_reducible refine Rd.setCell ?_ ?_ _); rotate_left 1; (focus (first | omega | (simp; done) | (simp; omega)))))); exact HOX.out
  replace HOY : Hid (Rd w4 (0) (w.heap.size) (X2) (strs T)) := by rw [Hid, hw]; (repeat (first | (with_reducible refine Rd.alloc ?_ _) | (with_reducible refine Rd.drew ?_) | ((with_reducible refine Rd.setCell ?_ ?_ _); rotate_left 1; (focus (first | omega | (simp; done) | (simp; omega)))))); exact HOY.out
  replace HXs : Hid (NewBox w4 (w.heap.size) [.int .i64 z1, .slice A1 m1 c1, .int .i64 z2, .slice A2 m2 c2, .int .i64 h.num, .int .i64 h.size, .string h.root, .int .i64 h.taken, .string h.troot]) := by rw [Hid, hw]; (repeat (first | (with_reducible refine NewBox.alloc ?_ _) | (with_reducible refine NewBox.drew ?_) | ((with_reducible refine NewBox.setCell ?_ ?_ _); rotate_left 1; (focus (first | omega | (simp; done) | (simp; omega)))))); exact HXs.out
  clear hxs hfs hks
  have hxs := HXs.out.2.1
  have hfs := HXs.out.2.2
  have hks := HXs.out.1
  replace HXq : Hid (NewBox w4 (w.heap.size + 1) [.int .i64 0, .slice none 0 0, .int .i64 0, .slice none 0 0, .int .i64 0, .int .i64 0, .string ⟨#[]⟩, .int .i64 0, .string ⟨#[]⟩]) := by rw [Hid, hw]; apply NewBox.cast; (focus ((repeat (first | (with_reducible apply NewBox.alloc) | (with_reducible apply NewBox.drew) | (with_reducible apply NewBox.set1) | ((with_reducible apply NewBox.far); (focus (first | omega | (simp; done) | (simp; omega)))))); exact HXq.out)); rfl
  clear hxq hfq hkq
  have hxq := HXq.out.2.1
  have hfq := HXq.out.2.2
  have hkq := HXq.out.1
  clear hw
  refine bodyPost_ret (v := .tuple #[.agg #[.int .i64 0, .slice none 0 0, .int .i64 0, .slice none 0 0, .int .i64 0, .int .i64 0, .string ⟨#[]⟩, .int .i64 0, .string ⟨#[]⟩], .int .i64 0, .int .i64 2]) (by simp [results, Try.results25, go_sem, hxq]) rfl ?_
  exact smBad_post HB.out _
 have HQ2 := Lib.hid hq2
 rw [hq2, if_neg (by decide)] at HCD
 rw [hq2] at HOK
 clear hq2
 go_wp2_with fail
 refine (HH2.out _ HOY.out.base).mono ?_
 rintro e w4_ ⟨rfl, rfl⟩
 rcases hq3 : areH width T with _ | _
 ·skip
  have hz0 : ok = false := by rw [HOK.out, hq3]; simp
  obtain ⟨rfl, rfl, rfl, rfl, rfl, rfl⟩ := HBD.out hz0
  have hsc : sc = 3 := by rw [HCD.out, hq3, if_pos rfl]
  subst hsc
  clear HOK HCD HBD HGD hz0 hq3
  go_wp2
  refine bodyPost_named (fun w5 hw => ?_)
  have hz5 : w2.heap.size + 0 ≤ w5.heap.size := by rw [hw]; first | omega | (simp [World.setCell]; done) | (simp [World.setCell]; omega)
  have hzz5 : w.heap.size ≤ w5.heap.size := by omega
  replace HB : Hid (Below w.heap.size w w5) := by rw [Hid, hw]; exact (by ((repeat (first | ((with_reducible refine Below.alloc ?_ ?_ _); rotate_left 1; (focus (first | omega | (simp; done) | (simp; omega)))) | (with_reducible refine Below.drew ?_) | ((with_reducible refine Below.setCell ?_ ?_ _); rotate_left 1; (focus (first | omega | (simp; done) | (simp; omega)))))); exact HB.out))
  replace HOA : Hid (Rd w5 (0) (w.heap.size) (A1) (strs l1)) := by rw [Hid, hw]; (repeat (first | (with_reducible refine Rd.alloc ?_ _) | (with_reducible refine Rd.drew ?_) | ((with_reducible refine Rd.setCell ?_ ?_ _); rotate_left 1; (focus (first | omega | (simp; done) | (simp; omega)))))); exact HOA.out
  replace HOB : Hid (Rd w5 (0) (w.heap.size) (A2) (strs l2)) := by rw [Hid, hw]; (repeat (first | (with_reducible refine Rd.alloc ?_ _) | (with_reducible refine Rd.drew ?_) | ((with_reducible refine Rd.setCell ?_ ?_ _); rotate_left 1; (focus (first | omega | (simp; done) | (simp; omega)))))); exact HOB.out
  replace HOX : Hid (Rd w5 (0) (w.heap.size) (X1) (strs L)) := by rw [Hid, hw]; (repeat (first | (with_reducible refine Rd.alloc ?_ _) | (with_reducible refine Rd.drew ?_) | ((with_reducible refine Rd.setCell ?_ ?_ _); rotate_left 1; (focus (first | omega | (simp; done) | (simp; omega)))))); exact HOX.out
  replace HOY : Hid (Rd w5 (0) (w.heap.size) (X2) (strs T)) := by rw [Hid, hw]; (repeat (first | (with_reducible refine Rd.alloc ?_ _) | (with_reducible refine Rd.drew ?_) | ((with_reducible refine Rd.setCell ?_ ?_ _); rotate_left 1; (focus (first | omega | (simp; done) | (simp; omega)))))); exact HOY.out
  replace HXs : Hid (NewBox w5 (w.heap.size) [.int .i64 z1, .slice A1 m1 c1, .int .i64 z2, .slice A2 m2 c2, .int .i64 h.num, .int .i64 h.size, .string h.root, .int .i64 h.taken, .string h.troot]) := by rw [Hid, hw]; (repeat (first | (with_reducible refine NewBox.alloc ?_ _) | (with_reducible refine NewBox.drew ?_) | ((with_reducible refine NewBox.setCell ?_ ?_ _); rotate_left 1; (focus (first | omega | (simp; done) | (simp; omega)))))); exact HXs.out
  clear hxs hfs hks
  have hxs := HXs.out.2.1
  have hfs := HXs.out.2.2
  have hks := HXs.out.1
  replace HXq : Hid (NewBox w5 (w.heap.size + 1) [.int .i64 0, .slice none 0 0, .int .i64 0, .slice none 0 0, .int .i64 0, .int .i64 0, .string ⟨#[]⟩, .int .i64 0, .string ⟨#[]⟩]) := by rw [Hid, hw]; apply NewBox.cast; (focus ((repeat (first | (with_reducible apply NewBox.alloc) | (with_reducible apply NewBox.drew) | (with_reducible apply NewBox.set1) | ((with_reducible apply NewBox.far); (focus (first | omega | (simp; done) | (simp; omega)))))); exact HXq.out)); rfl
  clear hxq hfq hkq
  have hxq := HXq.out.2.1
  have hfq := HXq.out.2.2
  have hkq := HXq.out.1
  clear hw
  refine bodyPost_ret (v := .tuple #[.agg #[.int .i64 0, .slice none 0 0, .int .i64 0, .slice none 0 0, .int .i64 0, .int .i64 0, .string ⟨#[]⟩, .int .i64 0, .string ⟨#[]⟩], .int .i64 0, .int .i64 3]) (by simp [results, Try.results25, go_sem, hxq]) rfl ?_
  exact smBad_post HB.out _
 have HQ3 := Lib.hid hq3
 obtain ⟨u1, u2, u3, u4⟩ := sealOk_all HQ1.out
 obtain ⟨z11, z12, _⟩ := rngOk_all u1
 obtain ⟨z21, z22, _⟩ := rngOk_all u2
 have HU := Lib.hid (And.intro u1 u2)
 rw [hq3, if_neg (by decide)] at HCD
 rw [hq3] at HOK
 clear hq3 u1 u2 HSO HH1 HH2
 rcases (show 512 - z1 < (k1 : Int) ∨ (k1 : Int) ≤ 512 - z1 by omega) with hf1 | hf1
 ·have hq4 : smFit z1 z2 h k1 k2 = false := by rw [HFIT.out, decide_eq_false (by omega)]; rfl
  have hz0 : ok = false := by rw [HOK.out, hq4]; simp
  obtain ⟨rfl, rfl, rfl, rfl, rfl, rfl⟩ := HBD.out hz0
  have hsc : sc = 4 := by rw [HCD.out, hq4, if_pos rfl]
  subst hsc
  clear HOK HCD HBD HGD hz0 hq4
  go_wp2
  refine bodyPost_named (fun w5 hw => ?_)
  have hz5 : w2.heap.size + 0 ≤ w5.heap.size := by rw [hw]; first | omega | (simp [World.setCell]; done) | (simp [World.setCell]; omega)
  have hzz5 : w.heap.size ≤ w5.heap.size := by omega
  replace HB : Hid (Below w.heap.size w w5) := by rw [Hid, hw]; exact (by ((repeat (first | ((with_reducible refine Below.alloc ?_ ?_ _); rotate_left 1; (focus (first | omega | (simp; done) | (simp; omega)))) | (with_reducible refine Below.drew ?_) | ((with_reducible refine Below.setCell ?_ ?_ _); rotate_left 1; (focus (first | omega | (simp; done) | (simp; omega)))))); exact HB.out))
  replace HOA : Hid (Rd w5 (0) (w.heap.size) (A1) (strs l1)) := by rw [Hid, hw]; (repeat (first | (with_reducible refine Rd.alloc ?_ _) | (with_reducible refine Rd.drew ?_) | ((with_reducible refine Rd.setCell ?_ ?_ _); rotate_left 1; (focus (first | omega | (simp; done) | (simp; omega)))))); exact HOA.out
  replace HOB : Hid (Rd w5 (0) (w.heap.size) (A2) (strs l2)) := by rw [Hid, hw]; (repeat (first | (with_reducible refine Rd.alloc ?_ _) | (with_reducible refine Rd.drew ?_) | ((with_reducible refine Rd.setCell ?_ ?_ _); rotate_left 1; (focus (first | omega | (simp; done) | (simp; omega)))))); exact HOB.out
  replace HOX : Hid (Rd w5 (0) (w.heap.size) (X1) (strs L)) := by rw [Hid, hw]; (repeat (first | (with_reducible refine Rd.alloc ?_ _) | (with_reducible refine Rd.drew ?_) | ((with_reducible refine Rd.setCell ?_ ?_ _); rotate_left 1; (focus (first | omega | (simp; done) | (simp; omega)))))); exact HOX.out
  replace HOY : Hid (Rd w5 (0) (w.heap.size) (X2) (strs T)) := by rw [Hid, hw]; (repeat (first | (with_reducible refine Rd.alloc ?_ _) | (with_reducible refine Rd.drew ?_) | ((with_reducible refine Rd.setCell ?_ ?_ _); rotate_left 1; (focus (first | omega | (simp; done) | (simp; omega)))))); exact HOY.out
  replace HXs : Hid (NewBox w5 (w.heap.size) [.int .i64 z1, .slice A1 m1 c1, .int .i64 z2, .slice A2 m2 c2, .int .i64 h.num, .int .i64 h.size, .string h.root, .int .i64 h.taken, .string h.troot]) := by rw [Hid, hw]; (repeat (first | (with_reducible refine NewBox.alloc ?_ _) | (with_reducible refine NewBox.drew ?_) | ((with_reducible refine NewBox.setCell ?_ ?_ _); rotate_left 1; (focus (first | omega | (simp; done) | (simp; omega)))))); exact HXs.out
  clear hxs hfs hks
  have hxs := HXs.out.2.1
  have hfs := HXs.out.2.2
  have hks := HXs.out.1
  replace HXq : Hid (NewBox w5 (w.heap.size + 1) [.int .i64 0, .slice none 0 0, .int .i64 0, .slice none 0 0, .int .i64 0, .int .i64 0, .string ⟨#[]⟩, .int .i64 0, .string ⟨#[]⟩]) := by rw [Hid, hw]; apply NewBox.cast; (focus ((repeat (first | (with_reducible apply NewBox.alloc) | (with_reducible apply NewBox.drew) | (with_reducible apply NewBox.set1) | ((with_reducible apply NewBox.far); (focus (first | omega | (simp; done) | (simp; omega)))))); exact HXq.out)); rfl
  clear hxq hfq hkq
  have hxq := HXq.out.2.1
  have hfq := HXq.out.2.2
  have hkq := HXq.out.1
  clear hw
  refine bodyPost_ret (v := .tuple #[.agg #[.int .i64 0, .slice none 0 0, .int .i64 0, .slice none 0 0, .int .i64 0, .int .i64 0, .string ⟨#[]⟩, .int .i64 0, .string ⟨#[]⟩], .int .i64 0, .int .i64 4]) (by simp [results, Try.results25, go_sem, hxq]) rfl ?_
  exact smBad_post HB.out _
 rcases (show 512 - z2 < (k2 : Int) ∨ (k2 : Int) ≤ 512 - z2 by omega) with hf2 | hf2
 ·have hq4 : smFit z1 z2 h k1 k2 = false := by rw [HFIT.out, decide_eq_false (show ¬ (k2 : Int) ≤ 512 - z2 by omega), Bool.and_false]; rfl
  have hz0 : ok = false := by rw [HOK.out, hq4]; simp
  obtain ⟨rfl, rfl, rfl, rfl, rfl, rfl⟩ := HBD.out hz0
  have hsc : sc = 4 := by rw [HCD.out, hq4, if_pos rfl]
  subst hsc
  clear HOK HCD HBD HGD hz0 hq4
  go_wp2
  refine bodyPost_named (fun w5 hw => ?_)
  have hz5 : w2.heap.size + 0 ≤ w5.heap.size := by rw [hw]; first | omega | (simp [World.setCell]; done) | (simp [World.setCell]; omega)
  have hzz5 : w.heap.size ≤ w5.heap.size := by omega
  replace HB : Hid (Below w.heap.size w w5) := by rw [Hid, hw]; exact (by ((repeat (first | ((with_reducible refine Below.alloc ?_ ?_ _); rotate_left 1; (focus (first | omega | (simp; done) | (simp; omega)))) | (with_reducible refine Below.drew ?_) | ((with_reducible refine Below.setCell ?_ ?_ _); rotate_left 1; (focus (first | omega | (simp; done) | (simp; omega)))))); exact HB.out))
  replace HOA : Hid (Rd w5 (0) (w.heap.size) (A1) (strs l1)) := by rw [Hid, hw]; (repeat (first | (with_reducible refine Rd.alloc ?_ _) | (with_reducible refine Rd.drew ?_) | ((with_reducible refine Rd.setCell ?_ ?_ _); rotate_left 1; (focus (first | omega | (simp; done) | (simp; omega)))))); exact HOA.out
  replace HOB : Hid (Rd w5 (0) (w.heap.size) (A2) (strs l2)) := by rw [Hid, hw]; (repeat (first | (with_reducible refine Rd.alloc ?_ _) | (with_reducible refine Rd.drew ?_) | ((with_reducible refine Rd.setCell ?_ ?_ _); rotate_left 1; (focus (first | omega | (simp; done) | (simp; omega)))))); exact HOB.out
  replace HOX : Hid (Rd w5 (0) (w.heap.size) (X1) (strs L)) := by rw [Hid, hw]; (repeat (first | (with_reducible refine Rd.alloc ?_ _) | (with_reducible refine Rd.drew ?_) | ((with_reducible refine Rd.setCell ?_ ?_ _); rotate_left 1; (focus (first | omega | (simp; done) | (simp; omega)))))); exact HOX.out
  replace HOY : Hid (Rd w5 (0) (w.heap.size) (X2) (strs T)) := by rw [Hid, hw]; (repeat (first | (with_reducible refine Rd.alloc ?_ _) | (with_reducible refine Rd.drew ?_) | ((with_reducible refine Rd.setCell ?_ ?_ _); rotate_left 1; (focus (first | omega | (simp; done) | (simp; omega)))))); exact HOY.out
  replace HXs : Hid (NewBox w5 (w.heap.size) [.int .i64 z1, .slice A1 m1 c1, .int .i64 z2, .slice A2 m2 c2, .int .i64 h.num, .int .i64 h.size, .string h.root, .int .i64 h.taken, .string h.troot]) := by rw [Hid, hw]; (repeat (first | (with_reducible refine NewBox.alloc ?_ _) | (with_reducible refine NewBox.drew ?_) | ((with_reducible refine NewBox.setCell ?_ ?_ _); rotate_left 1; (focus (first | omega | (simp; done) | (simp; omega)))))); exact HXs.out
  clear hxs hfs hks
  have hxs := HXs.out.2.1
  have hfs := HXs.out.2.2
  have hks := HXs.out.1
  replace HXq : Hid (NewBox w5 (w.heap.size + 1) [.int .i64 0, .slice none 0 0, .int .i64 0, .slice none 0 0, .int .i64 0, .int .i64 0, .string ⟨#[]⟩, .int .i64 0, .string ⟨#[]⟩]) := by rw [Hid, hw]; apply NewBox.cast; (focus ((repeat (first | (with_reducible apply NewBox.alloc) | (with_reducible apply NewBox.drew) | (with_reducible apply NewBox.set1) | ((with_reducible apply NewBox.far); (focus (first | omega | (simp; done) | (simp; omega)))))); exact HXq.out)); rfl
  clear hxq hfq hkq
  have hxq := HXq.out.2.1
  have hfq := HXq.out.2.2
  have hkq := HXq.out.1
  clear hw
  refine bodyPost_ret (v := .tuple #[.agg #[.int .i64 0, .slice none 0 0, .int .i64 0, .slice none 0 0, .int .i64 0, .int .i64 0, .string ⟨#[]⟩, .int .i64 0, .string ⟨#[]⟩], .int .i64 0, .int .i64 4]) (by simp [results, Try.results25, go_sem, hxq]) rfl ?_
  exact smBad_post HB.out _
 rcases (show h.num = 399 ∨ h.num < 399 by omega) with hf3 | hf3
 ·have hq4 : smFit z1 z2 h k1 k2 = false := by rw [HFIT.out, hf3]; simp
  have hf4 : (400 : Int) ≤ h.num + 1 := by omega
  clear hf3
  have hz0 : ok = false := by rw [HOK.out, hq4]; simp
  obtain ⟨rfl, rfl, rfl, rfl, rfl, rfl⟩ := HBD.out hz0
  have hsc : sc = 4 := by rw [HCD.out, hq4, if_pos rfl]
  subst hsc
  clear HOK HCD HBD HGD hz0 hq4
  go_wp2
  refine bodyPost_named (fun w5 hw => ?_)
  have hz5 : w2.heap.size + 0 ≤ w5.heap.size := by rw [hw]; first | omega | (simp [World.setCell]; done) | (simp [World.setCell]; omega)
  have hzz5 : w.heap.size ≤ w5.heap.size := by omega
  replace HB : Hid (Below w.heap.size w w5) := by rw [Hid, hw]; exact (by ((repeat (first | ((with_reducible refine Below.alloc ?_ ?_ _); rotate_left 1; (focus (first | omega | (simp; done) | (simp; omega)))) | (with_reducible refine Below.drew ?_) | ((with_reducible refine Below.setCell ?_ ?_ _); rotate_left 1; (focus (first | omega | (simp; done) | (simp; omega)))))); exact HB.out))
  replace HOA : Hid (Rd w5 (0) (w.heap.size) (A1) (strs l1)) := by rw [Hid, hw]; (repeat (first | (with_reducible refine Rd.alloc ?_ _) | (with_reducible refine Rd.drew ?_) | ((with_reducible refine Rd.setCell ?_ ?_ _); rotate_left 1; (focus (first | omega | (simp; done) | (simp; omega)))))); exact HOA.out
  replace HOB : Hid (Rd w5 (0) (w.heap.size) (A2) (strs l2)) := by rw [Hid, hw]; (repeat (first | (with_reducible refine Rd.alloc ?_ _) | (with_reducible refine Rd.drew ?_) | ((with_reducible refine Rd.setCell ?_ ?_ _); rotate_left 1; (focus (first | omega | (simp; done) | (simp; omega)))))); exact HOB.out
  replace HOX : Hid (Rd w5 (0) (w.heap.size) (X1) (strs L)) := by rw [Hid, hw]; (repeat (first | (with_reducible refine Rd.alloc ?_ _) | (with_reducible refine Rd.drew ?_) | ((with_reducible refine Rd.setCell ?_ ?_ _); rotate_left 1; (focus (first | omega | (simp; done) | (simp; omega)))))); exact HOX.out
  replace HOY : Hid (Rd w5 (0) (w.heap.size) (X2) (strs T)) := by rw [Hid, hw]; (repeat (first | (with_reducible refine Rd.alloc ?_ _) | (with_reducible refine Rd.drew ?_) | ((with_reducible refine Rd.setCell ?_ ?_ _); rotate_left 1; (focus (first | omega | (simp; done) | (simp; omega)))))); exact HOY.out
  replace HXs : Hid (NewBox w5 (w.heap.size) [.int .i64 z1, .slice A1 m1 c1, .int .i64 z2, .slice A2 m2 c2, .int .i64 h.num, .int .i64 h.size, .string h.root, .int .i64 h.taken, .string h.troot]) := by rw [Hid, hw]; (repeat (first | (with_reducible refine NewBox.alloc ?_ _) | (with_reducible refine NewBox.drew ?_) | ((with_reducible refine NewBox.setCell ?_ ?_ _); rotate_left 1; (focus (first | omega | (simp; done) | (simp; omega)))))); exact HXs.out
  clear hxs hfs hks
  have hxs := HXs.out.2.1
  have hfs := HXs.out.2.2
  have hks := HXs.out.1
  replace HXq : Hid (NewBox w5 (w.heap.size + 1) [.int .i64 0, .slice none 0 0, .int .i64 0, .slice none 0 0, .int .i64 0, .int .i64 0, .string ⟨#[]⟩, .int .i64 0, .string ⟨#[]⟩]) := by rw [Hid, hw]; apply NewBox.cast; (focus ((repeat (first | (with_reducible apply NewBox.alloc) | (with_reducible apply NewBox.drew) | (with_reducible apply NewBox.set1) | ((with_reducible apply NewBox.far); (focus (first | omega | (simp; done) | (simp; omega)))))); exact HXq.out)); rfl
  clear hxq hfq hkq
  have hxq := HXq.out.2.1
  have hfq := HXq.out.2.2
  have hkq := HXq.out.1
  clear hw
  refine bodyPost_ret (v := .tuple #[.agg #[.int .i64 0, .slice none 0 0, .int .i64 0, .slice none 0 0, .int .i64 0, .int .i64 0, .string ⟨#[]⟩, .int .i64 0, .string ⟨#[]⟩], .int .i64 0, .int .i64 4]) (by simp [results, Try.results25, go_sem, hxq]) rfl ?_
  exact smBad_post HB.out _
 have hq4 : smFit z1 z2 h k1 k2 = true := by rw [HFIT.out, decide_eq_true hf1, decide_eq_true hf2, beq_eq_false_iff_ne.2 (show h.num ≠ 399 by omega)]; rfl
 have hok : ok = true := by rw [HOK.out, hq4]; rfl
 have hsc : sc = 0 := by rw [HCD.out, hq4]; rfl
 obtain ⟨t1, t2, t3, t4, t5, t6⟩ := HGD.out hok
 have HM := Lib.hid (fun W base p c1' c2' A1' A2' e1 (e2 : w.heap.size ≤ p) (e3 : w.heap.size ≤ base) e4 e5 e6 e7 e8 e9 e10 e11 => more_sm width z1 z2 p base w.heap.size c1' c2' m1 m2 A1' A2' l1 l2 h X1 X2 g1 g2 k1 k2 L T W HU.out.1 HU.out.2 HK.out.2.2.1 HK.out.2.2.2 HK.out.1 HQ2.out HK.out.2.1 HQ3.out hf1 hf2 e1 e2 e3 e4 e5 e6 e7 e8 e9 ⟨u3, u4⟩ e10 e11)
 rw [← t6, ← t1, ← t3, ← t2, ← t4] at HM
 rw [← t1, ← t3, ← t2, ← t4] at t5
 have hf4 : ¬ (400 : Int) ≤ h.num + 1 := by omega
 clear t1 t2 t3 t4 t6 HGD HBD HCD HOK HFIT HU HQ1 HQ2 HQ3 HK hok hq4
 subst hsc
 subst t5
 obtain ⟨rr1, hr1⟩ : ∃ r, r = rngRoot width p1 := ⟨_, rfl⟩
 obtain ⟨rr2, hr2⟩ : ∃ r, r = rngRoot width p2 := ⟨_, rfl⟩
 rw [← hr1, ← hr2] at HM
 have HE := Lib.hid (And.intro hr1 hr2)
 clear hr1 hr2
 go_wp2_with fail
 refine calls_named (fun w5 hw => ?_)
 have hz5 : w2.heap.size + 0 ≤ w5.heap.size := by rw [hw]; first | omega | (simp [World.setCell]; done) | (simp [World.setCell]; omega)
 have hzz5 : w.heap.size ≤ w5.heap.size := by omega
 have hbn : Below w2.heap.size w2 w5 := by rw [hw]; exact (by ((repeat (first | ((with_reducible refine Below.alloc ?_ ?_ _); rotate_left 1; (focus (first | omega | (simp; done) | (simp; omega)))) | (with_reducible refine Below.drew ?_) | ((with_reducible refine Below.setCell ?_ ?_ _); rotate_left 1; (focus (first | omega | (simp; done) | (simp; omega)))))); exact Below.refl _ _))
 replace HB := Lib.hid (below_then HB.out hbn HB.out.size)
 replace HOA := Lib.hid (HOA.out.below hbn)
 replace HOB := Lib.hid (HOB.out.below hbn)
 replace HOX := Lib.hid (HOX.out.below hbn)
 replace HOY := Lib.hid (HOY.out.below hbn)
 replace HXs := Lib.hid (HXs.out.below hbn)
 clear hxs hfs hks
 have hxs := HXs.out.2.1
 have hfs := HXs.out.2.2
 have hks := HXs.out.1
 replace HXq := Lib.hid (HXq.out.below hbn)
 clear hxq hfq hkq
 have hxq := HXq.out.2.1
 have hfq := HXq.out.2.2
 have hkq := HXq.out.1
 clear hbn
 clear hw
 refine (HCP.out _ HOA.out.base HOB.out.base).mono ?_
 rintro e w6 ⟨A3, c3, A4, c4, rfl, ho3, ho4, hap, hb⟩
 have hzw6 : w5.heap.size ≤ w6.heap.size := hb.size
 have hzzw6 : w.heap.size ≤ w6.heap.size := by omega
 replace HB := Lib.hid (below_then HB.out hb HB.out.size)
 replace HOA := Lib.hid (HOA.out.below hb)
 replace HOB := Lib.hid (HOB.out.below hb)
 replace HOX := Lib.hid (HOX.out.below hb)
 replace HOY := Lib.hid (HOY.out.below hb)
 replace HXs := Lib.hid (HXs.out.below hb)
 clear hxs hfs hks
 have hxs := HXs.out.2.1
 have hfs := HXs.out.2.2
 have hks := HXs.out.1
 replace HXq := Lib.hid (HXq.out.below hb)
 clear hxq hfq hkq
 have hxq := HXq.out.2.1
 have hfq := HXq.out.2.2
 have hkq := HXq.out.1
 clear hb
 have HO3 := Lib.hid ho3
 have HO4 := Lib.hid ho4
 have HAP := Lib.hid hap
 have hb2 : w.heap.size + 2 ≤ w5.heap.size := by omega
 have hpc : w5.heap.size ≤ w6.heap.size := by omega
 clear ho3 ho4 hap HCP
 go_wp2_with fail
 refine calls_named (fun wA hw => ?_)
 have hRa : RngAt wA w5.heap.size w6.heap.size 0 z1 (.slice A3 m1 c3) m1 l1 := by rw [hw]; exact rng_box #[.int .i64 z1, .slice A3 m1 c3, .int .i64 z2, .slice A4 m2 c4, .int .i64 h.num, .int .i64 h.size, .string h.root, .int .i64 h.taken, .string h.troot] _ (by decide) HO3.out rfl rfl
 have hRb : RngAt wA w5.heap.size w6.heap.size 2 z2 (.slice A4 m2 c4) m2 l2 := by rw [hw]; exact rng_box #[.int .i64 z1, .slice A3 m1 c3, .int .i64 z2, .slice A4 m2 c4, .int .i64 h.num, .int .i64 h.size, .string h.root, .int .i64 h.taken, .string h.troot] _ (by decide) HO4.out rfl rfl
 have hN : NewBox wA w6.heap.size [.int .i64 z1, .slice A3 m1 c3, .int .i64 z2, .slice A4 m2 c4, .int .i64 h.num, .int .i64 h.size, .string h.root, .int .i64 h.taken, .string h.troot] := by rw [hw]; exact NewBox.new _ #[.int .i64 z1, .slice A3 m1 c3, .int .i64 z2, .slice A4 m2 c4, .int .i64 h.num, .int .i64 h.size, .string h.root, .int .i64 h.taken, .string h.troot] _
 have hbA : Below w6.heap.size w6 wA := by rw [hw]; exact (Below.refl _ _).alloc (Nat.le_refl _) _
 have hX1 := HX1.out.lowB (below_then HB.out hbA HB.out.size) (Nat.le_refl _)
 have hX2 := HX2.out.lowB (below_then HB.out hbA HB.out.size) (Nat.le_refl _)
 have hcs : ∀ j, 4 ≤ j → j < 9 → ∃ v, wA.cell? ⟨w6.heap.size, j, none⟩ = some v := fun j h1 h2 => ⟨_, hN.cell (o := j) (List.getElem?_eq_getElem (by simpa using h2))⟩
 have HMM := Lib.hid (HM.out wA w5.heap.size w6.heap.size c3 c4 A3 A4 (Nat.le_trans hpc hbA.size) (by omega) (by omega) hpc hX1 hX2 hRa hRb HAP.out (hN.cell (o := 4) rfl) hcs)
 have hlt : w6.heap.size < wA.heap.size := hN.1
 clear hw hRa hRb hN hX1 hX2 hcs HM HAP HO3 HO4
 have hzwA : w6.heap.size ≤ wA.heap.size := hbA.size
 have hzzwA : w.heap.size ≤ wA.heap.size := by omega
 replace HB := Lib.hid (below_then HB.out hbA HB.out.size)
 replace HOA := Lib.hid (HOA.out.below hbA)
 replace HOB := Lib.hid (HOB.out.below hbA)
 replace HOX := Lib.hid (HOX.out.below hbA)
 replace HOY := Lib.hid (HOY.out.below hbA)
 replace HXs := Lib.hid (HXs.out.below hbA)
 clear hxs hfs hks
 have hxs := HXs.out.2.1
 have hfs := HXs.out.2.2
 have hks := HXs.out.1
 replace HXq := Lib.hid (HXq.out.below hbA)
 clear hxq hfq hkq
 have hxq := HXq.out.2.1
 have hfq := HXq.out.2.2
 have hkq := HXq.out.1
 clear hbA
 refine HMM.out.mono ?_
 rintro e wB ⟨A5, c5, A6, c6, rfl, hRa, hRb, hap, h4, h5, h6, h7, h8, hon⟩
 have HW1 := Lib.hid hRa.row
 have HW2 := Lib.hid hRb.row
 have HAP2 := Lib.hid hap
 have y0 : wB.cell? ⟨w6.heap.size, 0, none⟩ = some (.int .i64 s1) := hRa.c0
 have y1 : wB.cell? ⟨w6.heap.size, 1, none⟩ = some (.slice A5 p1.length c5) := hRa.c1
 have y2 : wB.cell? ⟨w6.heap.size, 2, none⟩ = some (.int .i64 s2) := hRb.c0
 have y3 : wB.cell? ⟨w6.heap.size, 3, none⟩ = some (.slice A6 p2.length c6) := hRb.c1
 clear HOA HOB HOX HOY
 have hzwB : wA.heap.size ≤ wB.heap.size := hon.size
 have hzzwB : w.heap.size ≤ wB.heap.size := by omega
 replace HB := Lib.hid (below_only HB.out hon (by omega) HB.out.size)
 replace HXs := Lib.hid (HXs.out.only hon (by first | omega | (simp; omega)))
 clear hxs hfs hks
 have hxs := HXs.out.2.1
 have hfs := HXs.out.2.2
 have hks := HXs.out.1
 replace HXq := Lib.hid (HXq.out.only hon (by first | omega | (simp; omega)))
 clear hxq hfq hkq
 have hxq := HXq.out.2.1
 have hfq := HXq.out.2.2
 have hkq := HXq.out.1
 clear hon hRa hRb hap HMM
 have HOR : Hid (RowB wB (w5.heap.size) (wB.heap.size) ((.slice A5 p1.length c5, p1.length)) (strs p1)) := RowB.of HW1.out
 have HOZ : Hid (RowB wB (w5.heap.size) (wB.heap.size) ((.slice A6 p2.length c6, p2.length)) (strs p2)) := RowB.of HW2.out
 clear HW1 HW2
 go_wp2
 refine bodyPost_named (fun w7 hw => ?_)
 have hz7 : wB.heap.size + 0 ≤ w7.heap.size := by rw [hw]; first | omega | (simp [World.setCell]; done) | (simp [World.setCell]; omega)
 have hzz7 : w.heap.size ≤ w7.heap.size := by omega
 replace HB : Hid (Below w.heap.size w w7) := by rw [Hid, hw]; exact (by ((repeat (first | ((with_reducible refine Below.alloc ?_ ?_ _); rotate_left 1; (focus (first | omega | (simp; done) | (simp; omega)))) | (with_reducible refine Below.drew ?_) | ((with_reducible refine Below.setCell ?_ ?_ _); rotate_left 1; (focus (first | omega | (simp; done) | (simp; omega)))))); exact HB.out))
 replace HOR : Hid (RowB w7 (w5.heap.size) (wB.heap.size) ((.slice A5 p1.length c5, p1.length)) (strs p1)) := by rw [Hid, hw]; (repeat (first | (with_reducible refine RowB.alloc ?_ _) | (with_reducible refine RowB.drew ?_) | ((with_reducible refine RowB.setCell ?_ ?_ _); rotate_left 1; (focus (first | omega | (simp; done) | (simp; omega)))))); exact HOR.out
 replace HOZ : Hid (RowB w7 (w5.heap.size) (wB.heap.size) ((.slice A6 p2.length c6, p2.length)) (strs p2)) := by rw [Hid, hw]; (repeat (first | (with_reducible refine RowB.alloc ?_ _) | (with_reducible refine RowB.drew ?_) | ((with_reducible refine RowB.setCell ?_ ?_ _); rotate_left 1; (focus (first | omega | (simp; done) | (simp; omega)))))); exact HOZ.out
 replace HXs : Hid (NewBox w7 (w.heap.size) [.int .i64 z1, .slice A1 m1 c1, .int .i64 z2, .slice A2 m2 c2, .int .i64 h.num, .int .i64 h.size, .string h.root, .int .i64 h.taken, .string h.troot]) := by rw [Hid, hw]; (repeat (first | (with_reducible refine NewBox.alloc ?_ _) | (with_reducible refine NewBox.drew ?_) | ((with_reducible refine NewBox.setCell ?_ ?_ _); rotate_left 1; (focus (first | omega | (simp; done) | (simp; omega)))))); exact HXs.out
 clear hxs hfs hks
 have hxs := HXs.out.2.1
 have hfs := HXs.out.2.2
 have hks := HXs.out.1
 replace HXq : Hid (NewBox w7 (w.heap.size + 1) [.int .i64 s1, .slice A5 p1.length c5, .int .i64 s2, .slice A6 p2.length c6, .int .i64 (h.num + 1), .int .i64 s1, .string rr1, .int .i64 s2, .string rr2]) := by rw [Hid, hw]; apply NewBox.cast; (focus ((repeat (first | (with_reducible apply NewBox.alloc) | (with_reducible apply NewBox.drew) | (with_reducible apply NewBox.set1) | ((with_reducible apply NewBox.far); (focus (first | omega | (simp; done) | (simp; omega)))))); exact HXq.out)); rfl
 clear hxq hfq hkq
 have hxq := HXq.out.2.1
 have hfq := HXq.out.2.2
 have hkq := HXq.out.1
 clear hw
 refine bodyPost_ret (v := .tuple #[.agg #[.int .i64 s1, .slice A5 p1.length c5, .int .i64 s2, .slice A6 p2.length c6, .int .i64 (h.num + 1), .int .i64 s1, .string rr1, .int .i64 s2, .string rr2], .int .i64 sn, .int .i64 0]) (by simp [results, Try.results25, go_sem, hxq]) rfl ?_
 obtain ⟨a1, b1, a2, b2, r1, r2, r3, r4, r5, r6, r7⟩ := two_rows (A1 := A5) (A2 := A6) HOR.out.1 HOZ.out.1 (by omega) HAP2.out
 obtain ⟨e1', e2'⟩ := HE.out
 obtain ⟨_, _, he5, _, hn5, _⟩ := ownsRow_slice HOR.out.1
 cases he5
 obtain ⟨_, _, he6, _, hn6, _⟩ := ownsRow_slice HOZ.out.1
 cases he6
 exact ⟨A5, c5, a1, b1, A6, c6, a2, b2, by rw [e1', e2'], ⟨by omega, r2, r3, hn5⟩, ⟨by omega, r5, r6, hn6⟩, r7, HB.out⟩
end Go.Proofs.Ytoccjgcokffkbaa
