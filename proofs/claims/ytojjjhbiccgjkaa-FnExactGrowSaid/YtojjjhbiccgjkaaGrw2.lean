/- Ranges that grow by many leaves. -/
import Derived.Test.YtojjjhbiccgjkaaGrw
import Derived.Test.YtojjjhbiccgjkaaClone
namespace Go.Proofs.Ytojjjhbiccgjkaa
set_option linter.unusedVariables false
set_option linter.unusedSimpArgs false
open Go.RowKit

theorem Rd.lowB {w w' : World} {lo hi B : Nat} {A : Option Addr} {xs : List Value} (h : Rd w lo hi A xs) (hb : Below B w w') (hh : hi ≤ B) : Rd w' lo hi A xs := h.keep hb.size (fun k _ hk => hb.block k (by omega))
theorem row_mono {w : World} {b b' : Nat} {e : TypeId} {size n : Nat} {v : Value} {xs : List Value} (h : w.ownsRow b e size v n xs) (hb : b' ≤ b) : w.ownsRow b' e size v n xs := by
  refine ⟨h.1, ?_⟩
  rcases h.2 with h1 | ⟨g, cap, cur, h1, h2, h3⟩
  · exact .inl h1
  · exact .inr ⟨g, cap, cur, h1, Nat.le_trans hb h2, h3⟩
theorem row_set {w : World} {b : Nat} {e : TypeId} {size n : Nat} {v : Value} {xs : List Value} (h : w.ownsRow b e size v n xs) {p : Addr} (hp : p.block < b) (u : Value) : (w.setCell p u).ownsRow b e size v n xs :=
  h.kept (row := some p.block) ⟨rfl, rfl, rfl, by simp [World.setCell], fun k hk hn => Below.heap_setCell _ _ _ _ (fun e => hn (congrArg some e))⟩ (.inr (fun e => by have := (h.lt p.block e).1; omega))
set_option maxRecDepth 100000 in
set_option maxHeartbeats 4000000 in
theorem growAll_c (width : Int) (n p o base c B0 : Nat) (A : Option Addr) (l : List ByteArray) (X : Option Addr) (g k0 : Nat) (leaves : List ByteArray) (w : World) (hw : inR width 1 32 = true) (hl : l.length = popN n) (ha : areH width l = true)
    (hk : leaves.length = k0) (hv : areH width leaves = true) (hn : n + k0 ≤ 512) (hbase : base ≤ w.heap.size) (hB1 : B0 ≤ p) (hB2 : B0 ≤ base) (hX : Rd w 0 B0 X (strs leaves)) (hR : RngAt w base p o n (.slice A (popN n) c) (popN n) l) :
    Calls Try.prog 125 #[.pointer (some ⟨p, o, none⟩), .int .i64 width, .slice X k0 g] w fun e w' => ∃ A' c', e = .returned (.int .i64 (callsUp n k0 : Nat)) ∧ RngAt w' base p o ((n + k0 : Nat) : Int) (.slice A' (popN (n + k0)) c') (popN (n + k0)) (growUp width n l leaves k0) ∧
      GrowRel p o (.slice A (popN n) c) (.slice A' (popN (n + k0)) c') w w' := by
  have HW := Lib.hid hw
  have HL := Lib.hid hl
  have HA := Lib.hid ha
  have HK := Lib.hid hk
  have HV := Lib.hid hv
  have HX := Lib.hid hX
  have HR := Lib.hid hR
  clear hw hl ha hk hv hX hR
  go_enter Try.func125, Try.ntmps125
  go_wp2
  go_loopw [7, 12] (fun md i wx => ∃ (k : Nat) (A' : Option Addr) (c' : Nat), k ≤ k0 ∧ i = .int .i64 k ∧ md = .int .i64 (callsUp n k : Nat) ∧ RngAt wx base p o ((n + k : Nat) : Int) (.slice A' (popN (n + k)) c') (popN (n + k)) (growUp width n l leaves k) ∧ GrowRel p o (.slice A (popN n) c) (.slice A' (popN (n + k)) c') w wx) (fun _ i _ => k0 - (intOf i).toNat)
  case atStart => exact ⟨0, A, c, Nat.zero_le _, rfl, rfl, HR.out, GrowRel.refl _ _ _ _⟩
  case round =>
    obtain ⟨k, A1, c1, hk, rfl, rfl, hR1, hG1⟩ := hrel
    have HR1 := Lib.hid hR1
    have HG1 := Lib.hid hG1
    have hsz := hG1.size
    have hbel := hG1.toBelow HR.out.row hB1 hB2 (by omega)
    by_cases hlt : k < k0
    · obtain ⟨b, off, s, rfl, hb, hks, hc⟩ := (HX.out.lowB hbel (Nat.le_refl _)).str (k := k) (by rw [HK.out]; exact hlt)
      have hsd : leaves.getD k ByteArray.empty = s := by rw [List.getD_eq_getElem?_getD, hks]; rfl
      have hss : (s.size : Int) = width := areH_mem HV.out s (List.mem_of_getElem? hks)
      have HGU : Hid (growUp width n l leaves (k + 1) = growOne width (n + k) (growUp width n l leaves k) s) := Lib.hid (by rw [growUp, hsd])
      have HCU : Hid (callsUp n (k + 1) = callsUp n k + tz (n + k)) := Lib.hid rfl
      have hgl := growUp_len (width := width) (leaves := leaves) HL.out (k := k) (by omega)
      have hga := growUp_are HW.out HL.out HA.out HV.out (k := k) (by omega) (by rw [HK.out]; omega)
      have hI : (k : Int) < k0 := by omega
      have hcl := callsUp_le n k
      have htl := tz_le (n + k)
      have HGR := Lib.hid (fun (W : World) (h : base ≤ W.heap.size) h2 => grow_c width (n + k) p o base c1 A1 (growUp width n l leaves k) s W HW.out (by omega) hgl hga hss h h2)
      have hcb : (callsUp n k : Int) ≤ 10000 := by omega
      have htb : (tz (n + k) : Int) ≤ 10 := by omega
      have hadd : n + (k + 1) = n + k + 1 := by omega
      have HADD := Lib.hid hadd
      clear hks hsd hss hgl hga hR1 hG1 hbel hadd
      generalize growUp width n l leaves k = gu at *
      generalize callsUp n k = cu at *
      generalize tz (n + k) = tk at *
      go_wp2_with fail
      refine (HGR.out _ (by omega) HR1.out).mono ?_
      rintro e w5 ⟨A5, c5, rfl, hR5, hG5⟩
      have HR5 := Lib.hid hR5
      have HG5 := Lib.hid (HG1.out.trans hG5)
      clear hR5 hG5 HR1 HG1 HGR
      go_wp2
      go_roundw
      case rel => exact ⟨k + 1, A5, c5, by omega, by go_num, by rw [HCU.out]; go_num, by rw [HADD.out, HGU.out]; exact HR5.out, by rw [HADD.out]; exact HG5.out⟩
      case measure => simp [intOf]; omega
    · obtain rfl : k = k0 := by omega
      clear hR1 hG1 hbel
      go_wp2
      go_ret
      exact ⟨A1, c1, rfl, HR1.out, HG1.out⟩
set_option maxRecDepth 100000 in
set_option maxHeartbeats 4000000 in
theorem copyRange_c (size : Int) (A : Option Addr) (c lo hi m : Nat) (l : List ByteArray) (w : World) (hr : Rd w lo hi A (strs l)) (hn : l.length = m) (hl : m ≤ 1048576) (hA : A = none → c = 0) :
    Calls Try.prog 118 #[.agg #[.int .i64 size, .slice A m c]] w fun e w' => ∃ A' c', e = .returned (.agg #[.int .i64 size, .slice A' m c']) ∧ w'.ownsRow w.heap.size 9 1 (.slice A' m c') m (strs l) ∧ Below w.heap.size w w' := by
  have HR := Lib.hid hr.base
  have HCL := Lib.hid (fun W (h : Rd W 0 W.heap.size A (strs l)) => cloneStrR_c A c 0 W.heap.size m l W h hn hl hA)
  clear hr hn hA
  have HB : Hid (Below w.heap.size w w) := Below.refl _ _
  go_enter Try.func118, Try.ntmps118
  go_wp2_with fail
  refine wp_named (fun w1 hw => ?_)
  have hz1 : w.heap.size + 2 ≤ w1.heap.size := by rw [hw]; first | omega | (simp [World.setCell]; done) | (simp [World.setCell]; omega)
  have hzz1 : w.heap.size ≤ w1.heap.size := by omega
  replace HB : Hid (Below w.heap.size w w1) := by rw [Hid, hw]; exact (by ((repeat (first | ((with_reducible refine Below.alloc ?_ ?_ _); rotate_left 1; (focus (first | omega | (simp; done) | (simp; omega)))) | (with_reducible refine Below.drew ?_) | ((with_reducible refine Below.setCell ?_ ?_ _); rotate_left 1; (focus (first | omega | (simp; done) | (simp; omega)))))); exact HB.out))
  have HXr : Hid (NewBox w1 (w.heap.size) [.int .i64 size, .slice A m c]) := by rw [Hid, hw]; exact ⟨by first | omega | (simp [World.setCell]; done) | (simp [World.setCell]; omega), fun o => by rcases o with _ | _ | o <;> go_simp, fun o => by go_simp⟩
  have hxr := HXr.out.2.1
  have hfr := HXr.out.2.2
  have hkr := HXr.out.1
  have HXq : Hid (NewBox w1 (w.heap.size + 1) [.int .i64 0, .slice none 0 0]) := by rw [Hid, hw]; exact ⟨by first | omega | (simp [World.setCell]; done) | (simp [World.setCell]; omega), fun o => by rcases o with _ | _ | o <;> go_simp, fun o => by go_simp⟩
  have hxq := HXq.out.2.1
  have hfq := HXq.out.2.2
  have hkq := HXq.out.1
  clear hw
  have hqw : w.heap.size + 1 < w1.heap.size := hkq
  have HROW : Hid (w1 = w1) := Lib.hid rfl
  go_region_held3 (fun w' => (∀ o, w'.cell? ⟨w.heap.size, o, none⟩ = [.int .i64 size, .slice A m c][o]?))
    (first | exact hxr | (intro o; rw [World.cell?_setCell_other _ _ _ _ (by simp), World.cell?_setCell_other _ _ _ _ (by simp)]; exact hxr o))
    (first
      | (go_at_call 171
         with_reducible refine (HCL.out _ (HR.out.below (by first | exact HB.out | exact HB.out.drew)).base).mono ?_
         rintro e w9 ⟨A9, c9, rfl, hrow9, hb9⟩
         have HR9 : Hid (w9.ownsRow (w.heap.size + 2) 9 1 (.slice A9 m c9) m (strs l)) := Lib.hid (row_mono hrow9 (by exact hkq))
         replace HB : Hid (Below w.heap.size w w9) := Lib.hid (below_then (by first | exact HB.out | exact HB.out.drew) hb9 (by exact HB.out.size))
         replace hxr : ∀ o, w9.cell? ⟨w.heap.size, o, none⟩ = [.int .i64 size, .slice A m c][o]? := fun o => (hb9.cell (p := ⟨w.heap.size, o, none⟩) (by exact hkr)).trans (hxr o)
         replace hxq : ∀ o, w9.cell? ⟨w.heap.size + 1, o, none⟩ = [.int .i64 0, .slice none 0 0][o]? := fun o => (hb9.cell (p := ⟨w.heap.size + 1, o, none⟩) (by exact hkq)).trans (hxq o)
         replace hfq : ∀ o, w9.frozen? ⟨w.heap.size + 1, o, none⟩ = false := fun o => (hb9.frozen (p := ⟨w.heap.size + 1, o, none⟩) (by exact hkq)).trans (hfq o)
         replace HXq : Hid (NewBox w9 (w.heap.size + 1) [.int .i64 0, .slice none 0 0]) := Lib.hid (by first | exact HXq.out.below hb9 | exact HXq.out.drew.below hb9)
         replace hkr : w.heap.size < w9.heap.size := Nat.lt_of_lt_of_le (by exact hkr) hb9.size
         replace hkq : w.heap.size + 1 < w9.heap.size := Nat.lt_of_lt_of_le (by exact hkq) hb9.size
         clear hb9 hrow9))
  go_wp2
  refine bodyPost_named (fun w8 hw => ?_)
  have hB8 : Hid (Below w.heap.size w w8) := by rw [Hid, hw]; exact (HB.out.setCell (Nat.le_succ _) _).setCell (Nat.le_succ _) _
  have hR8 : Hid (w8.ownsRow (w.heap.size + 2) 9 1 (.slice A9 m c9) m (strs l)) := by rw [Hid, hw]; exact row_set (row_set HR9.out (Nat.lt_succ_self _) _) (Nat.lt_succ_self _) _
  have hX8 : NewBox w8 (w.heap.size + 1) [.int .i64 size, .slice A9 m c9] := by rw [hw]; exact (HXq.out.set1 0 _).set1 1 _
  have hx8 := hX8.2.1
  clear hw hxr hxq hfq hfr
  refine bodyPost_ret (v := .agg #[.int .i64 size, .slice A9 m c9]) (by simp [results, Try.results118, go_sem, hx8]) rfl ?_
  exact ⟨A9, c9, rfl, row_mono hR8.out (by omega), hB8.out⟩
end Go.Proofs.Ytojjjhbiccgjkaa
