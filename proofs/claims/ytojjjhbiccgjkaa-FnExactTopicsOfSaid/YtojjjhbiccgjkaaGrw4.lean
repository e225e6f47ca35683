/- GrowAll, Grow and RangeOf of the reference. -/
import Derived.Test.YtojjjhbiccgjkaaGrw3
namespace Go.Proofs.Ytojjjhbiccgjkaa
set_option linter.unusedVariables false
set_option linter.unusedSimpArgs false
open Go.RowKit

structure GAt (w : World) (z : Int) (A : Option Addr) (m c : Nat) (wx : World) : Prop where
  below : Below w.heap.size w wx
  r : NewBox wx w.heap.size [.int .i64 z, .slice A m c]
  q : NewBox wx (w.heap.size + 1) [.int .i64 0, .slice none 0 0]
theorem GAt.next {w : World} {z : Int} {A : Option Addr} {m c : Nat} {wx wy : World} (h : GAt w z A m c wx) (hb : Below wx.heap.size wx wy) : GAt w z A m c wy := ⟨below_then h.below hb h.below.size, h.r.below hb, h.q.below hb⟩
theorem GAt.only {w : World} {z : Int} {A : Option Addr} {m c hi : Nat} {wx wy : World} (h : GAt w z A m c wx) (ho : Only (w.heap.size + 2) hi wx wy) : GAt w z A m c wy := ⟨below_only h.below ho (by omega) h.below.size, h.r.only ho (.inl (by omega)), h.q.only ho (.inl (by omega))⟩

def lenOfV : Value → Nat
  | .slice _ n _ => n
  | _ => 0
set_option maxRecDepth 100000 in
set_option maxHeartbeats 4000000 in
theorem specGrowAll_c (width z : Int) (A : Option Addr) (c lo hi m : Nat) (l : List ByteArray) (X : Option Addr) (g lo' hi' k0 : Nat) (leaves : List ByteArray) (w : World) (hr : Rd w lo hi A (strs l)) (hn : l.length = m) (hl : m ≤ 1048576) (hA : A = none → c = 0)
    (hX : Rd w lo' hi' X (strs leaves)) (hk : leaves.length = k0) (hkl : k0 ≤ 1048576) (hz : I64 z) :
    Calls Try.prog 68 #[.int .i64 width, .agg #[.int .i64 z, .slice A m c], .slice X k0 g] w fun e w' => ∃ A' c', e = .returned (.tuple #[.agg #[.int .i64 (gSize width z l leaves), .slice A' (gPeaks width z l leaves).length c'], .int .i64 (gCalls width z l leaves), .bool (growOk width z l leaves)]) ∧
      Own w' w.heap.size w'.heap.size A' (strs (gPeaks width z l leaves)) ∧ Below w.heap.size w w' := by
  have HDEF : Hid (growOk width z l leaves = (rngOk width z l && areH width leaves && decide ((k0 : Int) ≤ 512 - z))) := Lib.hid (by rw [growOk, hk])
  have HBAD : Hid (growOk width z l leaves = false → gSize width z l leaves = 0 ∧ gPeaks width z l leaves = [] ∧ gCalls width z l leaves = 0) := Lib.hid (fun h => by rw [gSize, gPeaks, gCalls, h]; exact ⟨rfl, rfl, rfl⟩)
  have HGOOD : Hid (growOk width z l leaves = true → gSize width z l leaves = z + k0 ∧ gPeaks width z l leaves = growUp width z.toNat l leaves k0 ∧ gCalls width z l leaves = (callsUp z.toNat k0 : Nat)) := Lib.hid (fun h => by rw [gSize, gPeaks, gCalls, h, hk]; exact ⟨rfl, rfl, rfl⟩)
  have HRK := Lib.hid (fun W (h : Rd W 0 W.heap.size A (strs l)) => specRangeOk_c width z A c 0 W.heap.size m l W h hn hl)
  have HAR := Lib.hid (fun W (h : Rd W 0 W.heap.size X (strs leaves)) => l04Hashes_c width X g 0 W.heap.size k0 leaves W h hk hkl)
  have HKN := Lib.hid (And.intro hn hk)
  have HX0 : Hid (Rd w 0 w.heap.size X (strs leaves)) := Lib.hid hX.base
  have HR0 : Hid (Rd w 0 w.heap.size A (strs l)) := Lib.hid hr.base
  have HAC := Lib.hid hA
  generalize growOk width z l leaves = ok at *
  generalize gSize width z l leaves = gs at *
  generalize gPeaks width z l leaves = gp at *
  generalize gCalls width z l leaves = gc at *
  have HB : Hid (Below w.heap.size w w) := Below.refl _ _
  have HOA : Hid (Rd w (0) (w.heap.size) (A) (strs l)) := Rd.base hr
  have HOX : Hid (Rd w (0) (w.heap.size) (X) (strs leaves)) := Rd.base hX
  clear hr hX hn hk hA
  go_enter Try.func68, Try.ntmps68
  go_wp2_with fail
  refine calls_named (fun w1 hw => ?_)
  have hz1 : w.heap.size + 2 ≤ w1.heap.size := by rw [hw]; first | omega | (simp [World.setCell]; done) | (simp [World.setCell]; omega)
  have hzz1 : w.heap.size ≤ w1.heap.size := by omega
  replace HB : Hid (Below w.heap.size w w1) := by rw [Hid, hw]; exact (by ((repeat (first | ((with_reducible refine Below.alloc ?_ ?_ _); rotate_left 1; (focus (first | omega | (simp; done) | (simp; omega)))) | (with_reducible refine Below.drew ?_) | ((with_reducible refine Below.setCell ?_ ?_ _); rotate_left 1; (focus (first | omega | (simp; done) | (simp; omega)))))); exact HB.out))
  replace HOA : Hid (Rd w1 (0) (w.heap.size) (A) (strs l)) := by rw [Hid, hw]; (repeat (first | (with_reducible refine Rd.alloc ?_ _) | (with_reducible refine Rd.drew ?_) | ((with_reducible refine Rd.setCell ?_ ?_ _); rotate_left 1; (focus (first | omega | (simp; done) | (simp; omega)))))); exact HOA.out
  replace HOX : Hid (Rd w1 (0) (w.heap.size) (X) (strs leaves)) := by rw [Hid, hw]; (repeat (first | (with_reducible refine Rd.alloc ?_ _) | (with_reducible refine Rd.drew ?_) | ((with_reducible refine Rd.setCell ?_ ?_ _); rotate_left 1; (focus (first | omega | (simp; done) | (simp; omega)))))); exact HOX.out
  have HXr : Hid (NewBox w1 (w.heap.size) [.int .i64 z, .slice A m c]) := by rw [Hid, hw]; exact ⟨by first | omega | (simp [World.setCell]; done) | (simp [World.setCell]; omega), fun o => by rcases o with _ | _ | o <;> go_simp, fun o => by go_simp⟩
  have hxr := HXr.out.2.1
  have hfr := HXr.out.2.2
  have hkr := HXr.out.1
  have HXq : Hid (NewBox w1 (w.heap.size + 1) [.int .i64 0, .slice none 0 0]) := by rw [Hid, hw]; exact ⟨by first | omega | (simp [World.setCell]; done) | (simp [World.setCell]; omega), fun o => by rcases o with _ | _ | o <;> go_simp, fun o => by go_simp⟩
  have hxq := HXq.out.2.1
  have hfq := HXq.out.2.2
  have hkq := HXq.out.1
  clear hw
  refine (HRK.out _ HOA.out.base).mono ?_
  rintro e w2 ⟨rfl, hb⟩
  have hzw2 : w1.heap.size ≤ w2.heap.size := hb.size
  have hzzw2 : w.heap.size ≤ w2.heap.size := by omega
  replace HB : Hid (Below w.heap.size w w2) := below_then HB.out hb HB.out.size
  replace HOA : Hid (Rd w2 (0) (w.heap.size) (A) (strs l)) := HOA.out.below hb
  replace HOX : Hid (Rd w2 (0) (w.heap.size) (X) (strs leaves)) := HOX.out.below hb
  replace HXr : Hid (NewBox w2 (w.heap.size) [.int .i64 z, .slice A m c]) := HXr.out.below hb
  clear hxr hfr hkr
  have hxr := HXr.out.2.1
  have hfr := HXr.out.2.2
  have hkr := HXr.out.1
  replace HXq : Hid (NewBox w2 (w.heap.size + 1) [.int .i64 0, .slice none 0 0]) := HXq.out.below hb
  clear hxq hfq hkq
  have hxq := HXq.out.2.1
  have hfq := HXq.out.2.2
  have hkq := HXq.out.1
  clear hb
  rcases hq1 : rngOk width z l with _ | _
  · obtain ⟨rfl, rfl, rfl⟩ := HBAD.out (by rw [HDEF.out, hq1]; rfl)
    have hz0 : ok = false := by rw [HDEF.out, hq1]; rfl
    subst hz0
    go_wp2
    refine bodyPost_named (fun w3 hw => ?_)
    have hz3 : w2.heap.size + 0 ≤ w3.heap.size := by rw [hw]; first | omega | (simp [World.setCell]; done) | (simp [World.setCell]; omega)
    have hzz3 : w.heap.size ≤ w3.heap.size := by omega
    replace HB : Hid (Below w.heap.size w w3) := by rw [Hid, hw]; exact (by ((repeat (first | ((with_reducible refine Below.alloc ?_ ?_ _); rotate_left 1; (focus (first | omega | (simp; done) | (simp; omega)))) | (with_reducible refine Below.drew ?_) | ((with_reducible refine Below.setCell ?_ ?_ _); rotate_left 1; (focus (first | omega | (simp; done) | (simp; omega)))))); exact HB.out))
    replace HOA : Hid (Rd w3 (0) (w.heap.size) (A) (strs l)) := by rw [Hid, hw]; (repeat (first | (with_reducible refine Rd.alloc ?_ _) | (with_reducible refine Rd.drew ?_) | ((with_reducible refine Rd.setCell ?_ ?_ _); rotate_left 1; (focus (first | omega | (simp; done) | (simp; omega)))))); exact HOA.out
    replace HOX : Hid (Rd w3 (0) (w.heap.size) (X) (strs leaves)) := by rw [Hid, hw]; (repeat (first | (with_reducible refine Rd.alloc ?_ _) | (with_reducible refine Rd.drew ?_) | ((with_reducible refine Rd.setCell ?_ ?_ _); rotate_left 1; (focus (first | omega | (simp; done) | (simp; omega)))))); exact HOX.out
    replace HXr : Hid (NewBox w3 (w.heap.size) [.int .i64 z, .slice A m c]) := by rw [Hid, hw]; (repeat (first | (with_reducible refine NewBox.alloc ?_ _) | (with_reducible refine NewBox.drew ?_) | ((with_reducible refine NewBox.setCell ?_ ?_ _); rotate_left 1; (focus (first | omega | (simp; done) | (simp; omega)))))); exact HXr.out
    clear hxr hfr hkr
    have hxr := HXr.out.2.1
    have hfr := HXr.out.2.2
    have hkr := HXr.out.1
    replace HXq : Hid (NewBox w3 (w.heap.size + 1) [.int .i64 0, .slice none 0 0]) := by rw [Hid, hw]; apply NewBox.cast; (focus ((repeat (first | (with_reducible apply NewBox.alloc) | (with_reducible apply NewBox.drew) | (with_reducible apply NewBox.set1) | ((with_reducible apply NewBox.far); (focus (first | omega | (simp; done) | (simp; omega)))))); exact HXq.out)); rfl
    clear hxq hfq hkq
    have hxq := HXq.out.2.1
    have hfq := HXq.out.2.2
    have hkq := HXq.out.1
    clear hw
    refine bodyPost_ret (v := .tuple #[.agg #[.int .i64 0, .slice none 0 0], .int .i64 0, .bool false]) (by simp [results, Try.results68, go_sem, hxq]) rfl ?_
    exact ⟨none, 0, rfl, Own.nil, HB.out⟩
  · obtain ⟨hz1, hz2, hpl, hah, hwd⟩ := rngOk_all hq1
    rw [hq1] at HDEF
    rw [hwd] at HAR
    clear hq1
    go_wp2_with fail
    refine (HAR.out _ HOX.out.base).mono ?_
    rintro e w3_ ⟨rfl, rfl⟩
    rcases hq2 : areH width leaves with _ | _
    · obtain ⟨rfl, rfl, rfl⟩ := HBAD.out (by rw [HDEF.out, hq2]; rfl)
      have hz0 : ok = false := by rw [HDEF.out, hq2]; rfl
      subst hz0
      go_wp2
      refine bodyPost_named (fun w4 hw => ?_)
      have hz4 : w2.heap.size + 0 ≤ w4.heap.size := by rw [hw]; first | omega | (simp [World.setCell]; done) | (simp [World.setCell]; omega)
      have hzz4 : w.heap.size ≤ w4.heap.size := by omega
      replace HB : Hid (Below w.heap.size w w4) := by rw [Hid, hw]; exact (by ((repeat (first | ((with_reducible refine Below.alloc ?_ ?_ _); rotate_left 1; (focus (first | omega | (simp; done) | (simp; omega)))) | (with_reducible refine Below.drew ?_) | ((with_reducible refine Below.setCell ?_ ?_ _); rotate_left 1; (focus (first | omega | (simp; done) | (simp; omega)))))); exact HB.out))
      replace HOA : Hid (Rd w4 (0) (w.heap.size) (A) (strs l)) := by rw [Hid, hw]; (repeat (first | (with_reducible refine Rd.alloc ?_ _) | (with_reducible refine Rd.drew ?_) | ((with_reducible refine Rd.setCell ?_ ?_ _); rotate_left 1; (focus (first | omega | (simp; done) | (simp; omega)))))); exact HOA.out
      replace HOX : Hid (Rd w4 (0) (w.heap.size) (X) (strs leaves)) := by rw [Hid, hw]; (repeat (first | (with_reducible refine Rd.alloc ?_ _) | (with_reducible refine Rd.drew ?_) | ((with_reducible refine Rd.setCell ?_ ?_ _); rotate_left 1; (focus (first | omega | (simp; done) | (simp; omega)))))); exact HOX.out
      replace HXr : Hid (NewBox w4 (w.heap.size) [.int .i64 z, .slice A m c]) := by rw [Hid, hw]; (repeat (first | (with_reducible refine NewBox.alloc ?_ _) | (with_reducible refine NewBox.drew ?_) | ((with_reducible refine NewBox.setCell ?_ ?_ _); rotate_left 1; (focus (first | omega | (simp; done) | (simp; omega)))))); exact HXr.out
      clear hxr hfr hkr
      have hxr := HXr.out.2.1
      have hfr := HXr.out.2.2
      have hkr := HXr.out.1
      replace HXq : Hid (NewBox w4 (w.heap.size + 1) [.int .i64 0, .slice none 0 0]) := by rw [Hid, hw]; apply NewBox.cast; (focus ((repeat (first | (with_reducible apply NewBox.alloc) | (with_reducible apply NewBox.drew) | (with_reducible apply NewBox.set1) | ((with_reducible apply NewBox.far); (focus (first | omega | (simp; done) | (simp; omega)))))); exact HXq.out)); rfl
      clear hxq hfq hkq
      have hxq := HXq.out.2.1
      have hfq := HXq.out.2.2
      have hkq := HXq.out.1
      clear hw
      refine bodyPost_ret (v := .tuple #[.agg #[.int .i64 0, .slice none 0 0], .int .i64 0, .bool false]) (by simp [results, Try.results68, go_sem, hxq]) rfl ?_
      exact ⟨none, 0, rfl, Own.nil, HB.out⟩
    · have HV := Lib.hid hq2
      rw [hq2] at HDEF
      clear hq2
      rcases (show (k0 : Int) ≤ 512 - z ∨ 512 - z < (k0 : Int) by omega) with h3 | h3
      · have hok : ok = true := by rw [HDEF.out, decide_eq_true h3]; rfl
        obtain ⟨n, hnz⟩ : ∃ n, n = z.toNat := ⟨_, rfl⟩
        have hzn : (n : Int) = z := by omega
        have hg3 := HGOOD.out hok
        rw [← hnz] at hg3
        obtain ⟨rfl, rfl, rfl⟩ := hg3
        subst hok
        have hnk : n + k0 ≤ 512 := by omega
        have hpm : m = popN n := by rw [← HKN.out.1, hpl, ← hzn, popC_nat (by omega)]
        have hlm : l.length = popN n := by rw [HKN.out.1, hpm]
        have HGL := Lib.hid (growUp_len (width := width) (leaves := leaves) hlm hnk)
        have HZN := Lib.hid hzn
        have HLM := Lib.hid hlm
        have HAH := Lib.hid hah
        have HWD := Lib.hid hwd
        have HPM := Lib.hid hpm
        have hm10 : m ≤ 10 := by rw [hpm]; exact popUp_le n 10
        have HGT : Hid (GAt w z A m c w2) := Lib.hid ⟨HB.out, HXr.out, HXq.out⟩
        have HR2 := Lib.hid (HR0.out.lowB HB.out (Nat.le_refl _))
        have hrow := row_mono (row_made w2 9 0) (show w.heap.size + 2 ≤ w2.heap.size by omega)
        have HROW := Lib.hid hrow
        have hcb0 : w.heap.size + 2 ≤ w2.heap.size := by omega
        clear hpl hah hpm hlm hzn hnz hwd hrow HGOOD HBAD HDEF HRK HAR
        clear HOA HOX
        go_wp2_with (at_builtin; refine appStr rfl _ _ rfl (w.heap.size + 2) _ 0 [] rfl HROW.out A m c 0 w.heap.size l rfl HKN.out.1 (HR2.out.below ((Below.refl _ _).alloc (Nat.le_refl _) _)) HAC.out (by omega) (by simp; omega) ?_)
        intro v2 w12 hown2 hg2
        try simp only [Nat.zero_add, List.nil_append] at hown2
        have hon := grown_only HROW.out hg2
        obtain ⟨A2, c2, rfl, _, _, _⟩ := ownsRow_slice hown2
        have HGT2 := Lib.hid ((HGT.out.next ((Below.refl _ _).alloc (Nat.le_refl _) _)).only hon)
        have HO2 := Lib.hid hown2
        clear hown2 hg2 hon HROW HGT HXr HXq hxr hxq hfr hfq hkr hkq HR2
        go_wp2
        go_loopw [9, 10, 11] (fun pk cl i wx => ∃ (k : Nat) (A0 : Option Addr) (c0 : Nat), k ≤ k0 ∧ i = .int .i64 k ∧ cl = .int .i64 (callsUp n k : Nat) ∧ pk = .slice A0 (popN (n + k)) c0 ∧ wx.ownsRow (w.heap.size + 2) 9 1 (.slice A0 (popN (n + k)) c0) (popN (n + k)) (strs (growUp width n l leaves k)) ∧ GAt w z A m c wx ∧ w.heap.size + 2 ≤ wx.heap.size) (fun _ _ i _ => k0 - (intOf i).toNat)
        case atStart => exact ⟨0, A2, c2, Nat.zero_le _, rfl, rfl, by rw [HPM.out]; rfl, by have h := HO2.out; rw [HPM.out] at h; exact h, HGT2.out, by have := HGT2.out.q.1; omega⟩
        case round =>
          clear HO2 HGT2
          obtain ⟨k, A0, c0, hkk, rfl, rfl, rfl, how, hga, hwz⟩ := hrel
          have HOW := Lib.hid how
          have HGA := Lib.hid hga
          clear how
          by_cases hlt : k < k0
          · obtain ⟨b, off, s, rfl, hb, hks, hc⟩ := (HX0.out.lowB hga.below (Nat.le_refl _)).str (k := k) (by rw [HKN.out.2]; exact hlt)
            have hsd : leaves.getD k ByteArray.empty = s := by rw [List.getD_eq_getElem?_getD, hks]; rfl
            have hss : (s.size : Int) = width := areH_mem HV.out s (List.mem_of_getElem? hks)
            have HGU : Hid (growUp width n l leaves (k + 1) = mergeK width (growUp width n l leaves k ++ [s]) (tz (n + k))) := Lib.hid (by rw [growUp, hsd]; rfl)
            have HCU : Hid (callsUp n (k + 1) = callsUp n k + tz (n + k)) := Lib.hid rfl
            have hgl := growUp_len (width := width) (leaves := leaves) HLM.out (k := k) (by omega)
            have hgaa := growUp_are HWD.out HLM.out HAH.out HV.out (k := k) (by omega) (by rw [HKN.out.2]; omega)
            obtain ⟨hpop, hpop1⟩ := tz_pop (n + k) (by omega)
            have hI : (k : Int) < k0 := by omega
            have hcl := callsUp_le n k
            have htl := tz_le (n + k)
            have hp10 : popN (n + k) ≤ 10 := popUp_le _ 10
            have HPK : Hid (∀ W, Calls Try.prog 122 #[.int .i64 (z + k + 1)] W fun e w' => ∃ A c, e = .returned (.slice A (popN (n + k + 1)) c) ∧ Below W.heap.size W w') := Lib.hid (fun W => by
              have h := specPeaksOf_c (n + k + 1) W (by omega)
              rw [popC_nat (by omega)] at h
              rwa [show ((n + k + 1 : Nat) : Int) = z + k + 1 by have := HZN.out; omega] at h)
            obtain ⟨L, hL⟩ : ∃ L, L = growUp width n l leaves k ++ [s] := ⟨_, rfl⟩
            have hLL : L.length = popN (n + k) + 1 := by rw [hL]; simp [hgl]
            have hLA : areH width L = true := areH_of fun x hx => by
              rw [hL, List.mem_append] at hx
              rcases hx with hx | hx
              · exact areH_mem hgaa x hx
              · rw [List.mem_singleton.1 hx]; exact hss
            have HSA : Hid (strs L = strs (growUp width n l leaves k) ++ strs [s]) := Lib.hid (by rw [hL, strs_app])
            rw [← hL] at HGU
            have hadd : n + (k + 1) = n + k + 1 := by omega
            have HLL := Lib.hid hLL
            have HLA := Lib.hid hLA
            have HPOP := Lib.hid (And.intro hpop hpop1)
            have hnk1 : n + k < 512 := by omega
            clear hks hsd hss hgl hgaa hL hLL hLA hadd hpop hpop1
            generalize growUp width n l leaves k = gu at *
            generalize callsUp n k = cu at *
            generalize tz (n + k) = tk at *
            generalize popN (n + k) = pm at *
            generalize hm1 : popN (n + k + 1) = m1 at *
            have HPN : Hid (popN (n + (k + 1)) = m1) := Lib.hid hm1
            clear hm1
            go_wp2_with (at_builtin; refine app1Str rfl _ _ rfl (w.heap.size + 2) _ _ _ rfl (HOW.out.alloc _) wr.heap.size s rfl (NewBox.new wr _ _) (by omega) (by first | omega | (simp; done) | (simp; omega)) ?_)
            intro v5 w5 hown5 hg5
            have hon5 := grown_only (HOW.out.alloc _) hg5
            obtain ⟨A5, c5, rfl, _, _, _⟩ := ownsRow_slice hown5
            rw [← HSA.out] at hown5
            have HGA5 := Lib.hid ((HGA.out.next ((Below.refl _ _).alloc (Nat.le_refl _) _)).only hon5)
            have HO5 := Lib.hid hown5
            have hz5 : w.heap.size + 2 ≤ w5.heap.size := by have := HGA5.out.q.1; omega
            have hxr := HGA5.out.r.2.1
            clear hown5 hg5 hon5 HOW HGA hga hc hb hwz
            go_wp2
            obtain ⟨wo, rfl⟩ : ∃ wo : World, wo = wr := ⟨_, rfl⟩
            clear hxr
            go_loopw [9, 10] (fun pk cl wx => ∃ (j q : Nat) (A0 : Option Addr) (c0 : Nat), j ≤ tk ∧ q + j = pm + 1 ∧ pk = .slice A0 q c0 ∧ cl = .int .i64 ((cu + j : Nat) : Int) ∧ wx.ownsRow (w.heap.size + 2) 9 1 (.slice A0 q c0) q (strs (mergeK width L j)) ∧ GAt w z A m c wx ∧ w.heap.size + 2 ≤ wx.heap.size) (fun pk _ _ => lenOfV pk)
            case atStart => exact ⟨0, pm + 1, A5, c5, Nat.zero_le _, rfl, rfl, rfl, HO5.out, HGA5.out, hz5⟩
            case round =>
              clear HO5 HGA5 hz5
              obtain ⟨j, q, A0, c0, hj, hq, rfl, rfl, how, hga, hwz⟩ := hrel
              have HOW := Lib.hid how
              have HGA := Lib.hid hga
              have hpop := HPOP.out
              clear hga
              by_cases hlj : j < tk
              · obtain ⟨q0, hq0⟩ : ∃ q0, q = q0 + 2 := ⟨q - 2, by omega⟩
                obtain ⟨q1, hq1⟩ : ∃ q1, q1 = q0 + 1 := ⟨_, rfl⟩
                have hjl : j < L.length := by rw [HLL.out]; omega
                have hlen := mergeK_len (width := width) hjl
                have hare := mergeK_are HWD.out HLA.out hjl
                have HMK : Hid (mergeK width L (j + 1) = merge1 width (mergeK width L j)) := Lib.hid rfl
                rw [HLL.out] at hlen
                generalize mergeK width L j = M at *
                have hMl : M.length = q := by omega
                have hM1 : merge1 width M = M.take q0 ++ [nodeT width (M.getD q0 ByteArray.empty) (M.getD q1 ByteArray.empty)] := by
                  rw [merge1, hMl, show q - 2 = q0 by omega, show q - 1 = q1 by omega]
                have ha0 := areH_mem hare _ (getD_mem (show q0 < M.length by omega))
                have ha1 := areH_mem hare _ (getD_mem (show q1 < M.length by omega))
                obtain ⟨gb, cap, hge⟩ := row_form how (by omega)
                injection hge with hge1 _ hge2
                subst hge1
                subst hge2
                have hx0 := how.cellAt q0 (by omega)
                have hx1 := how.cellAt q1 (by omega)
                have hsg : ∀ i, i < M.length → (strs M)[i]? = some (.string (M.getD i ByteArray.empty)) := fun i hi => strs_get (by rw [List.getD_eq_getElem?_getD, List.getElem?_eq_getElem hi]; rfl)
                rw [hsg q0 (by omega)] at hx0
                rw [hsg q1 (by omega)] at hx1
                have HTL : Hid ((M.take q0).length = q0) := Lib.hid (by rw [List.length_take]; omega)
                have HSTK : Hid (strs (M.take q0) = (strs M).take q0) := Lib.hid (by simp [strs])
                have HM1 := Lib.hid hM1
                generalize M.getD q0 ByteArray.empty = a0 at *
                generalize M.getD q1 ByteArray.empty = a1 at *
                have HND := Lib.hid (fun W => specNodeHash_c width a0 a1 W HWD.out ha0 ha1)
                generalize nodeT width a0 a1 = nd at *
                have hgb : gb < wr.heap.size := (how.lt gb rfl).2
                have E1 : IntKind.i64.wrap ((q : Int) - 2) = q0 := by rw [IntKind.wrap_i64]; omega
                have E2 : IntKind.i64.wrap ((q : Int) - 1) = q1 := by rw [IntKind.wrap_i64]; omega
                have E3 : (q : Int) - 2 = q0 := by omega
                have E4 : (q : Int) - 1 = q1 := by omega
                have E5 : (q0 : Int) < q := by omega
                have E6 : (q1 : Int) < q := by omega
                have hdm : decide (m1 < q) = true := decide_eq_true (by omega)
                have hq12 : (q : Int) ≤ 11 := by omega
                have hcub : ((cu + j : Nat) : Int) ≤ 100000 := by omega
                have HQ := Lib.hid (And.intro hq (And.intro hq0 hq1))
                clear how hsg hM1 hMl ha0 ha1 hare hlen hjl hq hq0 hq1 hpop
                generalize hcj : cu + j = cj at *
                have HCJ := Lib.hid hcj
                clear hcj
                go_wp2_with fail
                refine (HPK.out _).mono ?_
                rintro e w6 ⟨Ap, cp, rfl, hb6⟩
                have HGA6 := Lib.hid (HGA.out.next hb6)
                have HOW6 := Lib.hid (row_below HOW.out hb6)
                have hgb6 : gb < w6.heap.size := Nat.lt_of_lt_of_le hgb hb6.size
                have hz6 : w.heap.size + 2 ≤ w6.heap.size := by have := hb6.size; omega
                have l1 : ∀ v : Later w6, v.v.cell? ⟨gb, q0, none⟩ = some (.string a0) := fun v => (later_cell v _ _ hgb6).trans ((hb6.cell (p := ⟨gb, q0, none⟩) hgb).trans hx0)
                have l2 : ∀ v : Later w6, v.v.cell? ⟨gb, q1, none⟩ = some (.string a1) := fun v => (later_cell v _ _ hgb6).trans ((hb6.cell (p := ⟨gb, q1, none⟩) hgb).trans hx1)
                clear hb6 HGA HOW hx0 hx1
                go_wp2
                refine wp_region_later (by kernel_rfl) (by kernel_rfl) ?_
                repeat (go_big_quiet_step ((with_reducible exact later_call (HND.out _))))
                refine wpQuiet_nil ?_
                intro w7 h7
                have hb7 := later_below h7
                have HGA7 := Lib.hid (HGA6.out.next hb7)
                have HOW7 := Lib.hid (row_below HOW6.out hb7)
                have hz7 : w.heap.size + 2 ≤ w7.heap.size := by have := hb7.size; omega
                have hE9 : (q0 : Int) ≤ (c0 : Int) := by
                  rcases HOW7.out.2 with ⟨e, _⟩ | ⟨_, _, _, e, _, _, h9, _⟩
                  · cases e
                  · cases e; omega
                clear l1 l2 h7 hb7 HGA6 HOW6
                have hsrc : Rd w7 0 w7.heap.size (some ⟨gb, 0, none⟩) (strs (M.take q0)) := by
                  have h := (Own.of_ownsRow (row_take HOW7.out (show q0 ≤ q by omega))).rd.base
                  rw [HSTK.out]; exact h
                have HSRC := Lib.hid hsrc
                have HROW := Lib.hid (row_mono (row_made w7 9 0) (show w.heap.size + 2 ≤ w7.heap.size by omega))
                clear hsrc
                go_wp2_with (at_builtin; refine appStr rfl _ _ rfl (w.heap.size + 2) _ 0 [] rfl HROW.out (some ⟨gb, 0, none⟩) q0 c0 0 w7.heap.size (M.take q0) rfl HTL.out (HSRC.out.below ((Below.refl _ _).alloc (Nat.le_refl _) _)) (fun h => by cases h) (by omega) (by simp; omega) ?_)
                intro v8 w8 hown8 hg8
                try simp only [Nat.zero_add, List.nil_append] at hown8
                have hon8 := grown_only HROW.out hg8
                obtain ⟨A8, c8, rfl, _, _, _⟩ := ownsRow_slice hown8
                have HGA8 := Lib.hid ((HGA7.out.next ((Below.refl _ _).alloc (Nat.le_refl _) _)).only hon8)
                have HO8 := Lib.hid hown8
                have hz8 : w.heap.size + 2 ≤ w8.heap.size := by have := HGA8.out.q.1; omega
                clear hown8 hg8 hon8 HROW HGA7 HOW7 HSRC
                go_wp2_with (at_builtin; refine app1Str rfl _ _ rfl (w.heap.size + 2) _ _ _ rfl (HO8.out.alloc _) w8.heap.size nd rfl (NewBox.new w8 _ _) (by omega) (by first | omega | (simp; done) | (simp; omega)) ?_)
                intro v9 w9 hown9 hg9
                have hon9 := grown_only (HO8.out.alloc _) hg9
                obtain ⟨A9, c9, rfl, _, _, _⟩ := ownsRow_slice hown9
                rw [← strs_app, ← HM1.out, ← HMK.out] at hown9
                have HGA9 := Lib.hid ((HGA8.out.next ((Below.refl _ _).alloc (Nat.le_refl _) _)).only hon9)
                have HO9 := Lib.hid hown9
                have hz9 : w.heap.size + 2 ≤ w9.heap.size := by have := HGA9.out.q.1; omega
                clear hown9 hg9 hon9 HO8 HGA8 E1 E2 E3 E4 E5 E6
                go_wp2
                go_roundw
                case rel =>
                  obtain ⟨k4, k5, k6⟩ := HQ.out
                  exact ⟨j + 1, q0 + 1, A9, c9, by omega, by omega, rfl, by rw [← HCJ.out]; go_num, HO9.out, HGA9.out, hz9⟩
                case measure => obtain ⟨k4, k5, k6⟩ := HQ.out; show q0 + 1 < q; omega
              · obtain rfl : j = tk := by omega
                have hqm : q = m1 := by omega
                subst hqm
                have hdm : decide (q < q) = false := decide_eq_false (by omega)
                clear how hpop hq
                go_wp2_with fail
                refine (HPK.out _).mono ?_
                rintro e w6 ⟨Ap, cp, rfl, hb6⟩
                have HGA6 := Lib.hid (HGA.out.next hb6)
                have HOW6 := Lib.hid (row_below HOW.out hb6)
                have hz6 : w.heap.size + 2 ≤ w6.heap.size := by have := hb6.size; omega
                clear hb6 HGA HOW
                go_wp2
                go_roundw
                case rel => exact ⟨k + 1, A0, c0, by omega, by go_num, by rw [HCU.out]; go_num, by rw [HPN.out], by rw [HPN.out, HGU.out]; exact HOW6.out, HGA6.out, hz6⟩
                case measure => simp [intOf]; omega
          · obtain rfl : k = k0 := by omega
            have hxr := HGA.out.r.2.1
            have hfq := HGA.out.q.2.2
            have hxq := HGA.out.q.2.1
            have hzb : z ≤ 512 := hz2
            have HGS : Hid (z + (k : Int) = z + k) := Lib.hid rfl
            have hwz2 : w.heap.size + 2 ≤ wr.heap.size := hwz
            clear hga
            go_wp2
            refine bodyPost_named (fun w9 hw => ?_)
            have hQ9 : NewBox w9 (w.heap.size + 1) [.int .i64 (z + k), .slice A0 (popN (n + k)) c0] := by rw [hw]; exact (HGA.out.q.set1 0 _).set1 1 _
            have hB9 : Hid (Below w.heap.size w w9) := by rw [Hid, hw]; exact (HGA.out.below.setCell (Nat.le_succ _) _).setCell (Nat.le_succ _) _
            have hR9 : Hid (w9.ownsRow (w.heap.size + 2) 9 1 (.slice A0 (popN (n + k)) c0) (popN (n + k)) (strs (growUp width n l leaves k))) := by rw [Hid, hw]; exact row_set (row_set HOW.out (Nat.lt_succ_self _) _) (Nat.lt_succ_self _) _
            have hx9 := hQ9.2.1
            clear hw hxr hxq hfq
            refine bodyPost_ret (v := .tuple #[.agg #[.int .i64 (z + k), .slice A0 (popN (n + k)) c0], .int .i64 (callsUp n k : Nat), .bool true]) (by simp [results, Try.results68, go_sem, hx9]) rfl ?_
            exact ⟨A0, ⟨c0, by rw [HGL.out]⟩, (Own.of_ownsRow hR9.out).mono (by omega) (Nat.le_refl _) (Nat.le_refl _), hB9.out⟩
      · obtain ⟨rfl, rfl, rfl⟩ := HBAD.out (by rw [HDEF.out, decide_eq_false (by omega)]; rfl)
        have hz0 : ok = false := by rw [HDEF.out, decide_eq_false (by omega)]; rfl
        subst hz0
        go_wp2
        refine bodyPost_named (fun w4 hw => ?_)
        have hz4 : w2.heap.size + 0 ≤ w4.heap.size := by rw [hw]; first | omega | (simp [World.setCell]; done) | (simp [World.setCell]; omega)
        have hzz4 : w.heap.size ≤ w4.heap.size := by omega
        replace HB : Hid (Below w.heap.size w w4) := by rw [Hid, hw]; exact (by ((repeat (first | ((with_reducible refine Below.alloc ?_ ?_ _); rotate_left 1; (focus (first | omega | (simp; done) | (simp; omega)))) | (with_reducible refine Below.drew ?_) | ((with_reducible refine Below.setCell ?_ ?_ _); rotate_left 1; (focus (first | omega | (simp; done) | (simp; omega)))))); exact HB.out))
        replace HOA : Hid (Rd w4 (0) (w.heap.size) (A) (strs l)) := by rw [Hid, hw]; (repeat (first | (with_reducible refine Rd.alloc ?_ _) | (with_reducible refine Rd.drew ?_) | ((with_reducible refine Rd.setCell ?_ ?_ _); rotate_left 1; (focus (first | omega | (simp; done) | (simp; omega)))))); exact HOA.out
        replace HOX : Hid (Rd w4 (0) (w.heap.size) (X) (strs leaves)) := by rw [Hid, hw]; (repeat (first | (with_reducible refine Rd.alloc ?_ _) | (with_reducible refine Rd.drew ?_) | ((with_reducible refine Rd.setCell ?_ ?_ _); rotate_left 1; (focus (first | omega | (simp; done) | (simp; omega)))))); exact HOX.out
        replace HXr : Hid (NewBox w4 (w.heap.size) [.int .i64 z, .slice A m c]) := by rw [Hid, hw]; (repeat (first | (with_reducible refine NewBox.alloc ?_ _) | (with_reducible refine NewBox.drew ?_) | ((with_reducible refine NewBox.setCell ?_ ?_ _); rotate_left 1; (focus (first | omega | (simp; done) | (simp; omega)))))); exact HXr.out
        clear hxr hfr hkr
        have hxr := HXr.out.2.1
        have hfr := HXr.out.2.2
        have hkr := HXr.out.1
        replace HXq : Hid (NewBox w4 (w.heap.size + 1) [.int .i64 0, .slice none 0 0]) := by rw [Hid, hw]; apply NewBox.cast; (focus ((repeat (first | (with_reducible apply NewBox.alloc) | (with_reducible apply NewBox.drew) | (with_reducible apply NewBox.set1) | ((with_reducible apply NewBox.far); (focus (first | omega | (simp; done) | (simp; omega)))))); exact HXq.out)); rfl
        clear hxq hfq hkq
        have hxq := HXq.out.2.1
        have hfq := HXq.out.2.2
        have hkq := HXq.out.1
        clear hw
        refine bodyPost_ret (v := .tuple #[.agg #[.int .i64 0, .slice none 0 0], .int .i64 0, .bool false]) (by simp [results, Try.results68, go_sem, hxq]) rfl ?_
        exact ⟨none, 0, rfl, Own.nil, HB.out⟩
set_option maxRecDepth 100000 in
set_option maxHeartbeats 4000000 in
theorem specRangeOf_c (width : Int) (X : Option Addr) (g lo' hi' k0 : Nat) (leaves : List ByteArray) (w : World) (hX : Rd w lo' hi' X (strs leaves)) (hk : leaves.length = k0) (hkl : k0 ≤ 1048576) :
    Calls Try.prog 58 #[.int .i64 width, .slice X k0 g] w fun e w' => ∃ A' c', e = .returned (.tuple #[.agg #[.int .i64 (gSize width 0 [] leaves), .slice A' (gPeaks width 0 [] leaves).length c'], .bool (growOk width 0 [] leaves)]) ∧
      Own w' w.heap.size w'.heap.size A' (strs (gPeaks width 0 [] leaves)) ∧ Below w.heap.size w w' := by
  have HGA := Lib.hid (fun W (h : Rd W 0 W.heap.size X (strs leaves)) => specGrowAll_c width 0 none 0 0 0 0 [] X g 0 W.heap.size k0 leaves W Rd.nil rfl (by omega) (fun _ => rfl) h hk hkl ⟨by decide, by decide⟩)
  generalize growOk width 0 [] leaves = ok at *
  generalize gSize width 0 [] leaves = gs at *
  generalize gPeaks width 0 [] leaves = gp at *
  generalize gCalls width 0 [] leaves = gc at *
  have HB : Hid (Below w.heap.size w w) := Below.refl _ _
  have HOX : Hid (Rd w (0) (w.heap.size) (X) (strs leaves)) := Rd.base hX
  clear hX hk
  go_enter Try.func58, Try.ntmps58
  go_wp2_with fail
  refine calls_named (fun w1 hw => ?_)
  have hz1 : w.heap.size + 1 ≤ w1.heap.size := by rw [hw]; first | omega | (simp [World.setCell]; done) | (simp [World.setCell]; omega)
  have hzz1 : w.heap.size ≤ w1.heap.size := by omega
  replace HB : Hid (Below w.heap.size w w1) := by rw [Hid, hw]; exact (by ((repeat (first | ((with_reducible refine Below.alloc ?_ ?_ _); rotate_left 1; (focus (first | omega | (simp; done) | (simp; omega)))) | (with_reducible refine Below.drew ?_) | ((with_reducible refine Below.setCell ?_ ?_ _); rotate_left 1; (focus (first | omega | (simp; done) | (simp; omega)))))); exact HB.out))
  replace HOX : Hid (Rd w1 (0) (w.heap.size) (X) (strs leaves)) := by rw [Hid, hw]; (repeat (first | (with_reducible refine Rd.alloc ?_ _) | (with_reducible refine Rd.drew ?_) | ((with_reducible refine Rd.setCell ?_ ?_ _); rotate_left 1; (focus (first | omega | (simp; done) | (simp; omega)))))); exact HOX.out
  have HXq : Hid (NewBox w1 (w.heap.size) [.int .i64 0, .slice none 0 0]) := by rw [Hid, hw]; exact ⟨by first | omega | (simp [World.setCell]; done) | (simp [World.setCell]; omega), fun o => by rcases o with _ | _ | o <;> go_simp, fun o => by go_simp⟩
  have hxq := HXq.out.2.1
  have hfq := HXq.out.2.2
  have hkq := HXq.out.1
  clear hw
  refine (HGA.out _ HOX.out.base).mono ?_
  rintro e w2 ⟨A3, c3, rfl, hown3, hb⟩
  have hzw2 : w1.heap.size ≤ w2.heap.size := hb.size
  have hzzw2 : w.heap.size ≤ w2.heap.size := by omega
  replace HB : Hid (Below w.heap.size w w2) := below_then HB.out hb HB.out.size
  replace HOX : Hid (Rd w2 (0) (w.heap.size) (X) (strs leaves)) := HOX.out.below hb
  replace HXq : Hid (NewBox w2 (w.heap.size) [.int .i64 0, .slice none 0 0]) := HXq.out.below hb
  clear hxq hfq hkq
  have hxq := HXq.out.2.1
  have hfq := HXq.out.2.2
  have hkq := HXq.out.1
  clear hb
  have HOR : Hid (Own w2 (w1.heap.size) (w2.heap.size) (A3) (strs gp)) := hown3
  have hb3 : w.heap.size + 1 ≤ w1.heap.size := by omega
  clear hown3
  go_wp2
  refine bodyPost_named (fun w3 hw => ?_)
  have hz3 : w2.heap.size + 1 ≤ w3.heap.size := by rw [hw]; first | omega | (simp [World.setCell]; done) | (simp [World.setCell]; omega)
  have hzz3 : w.heap.size ≤ w3.heap.size := by omega
  replace HB : Hid (Below w.heap.size w w3) := by rw [Hid, hw]; exact (by ((repeat (first | ((with_reducible refine Below.alloc ?_ ?_ _); rotate_left 1; (focus (first | omega | (simp; done) | (simp; omega)))) | (with_reducible refine Below.drew ?_) | ((with_reducible refine Below.setCell ?_ ?_ _); rotate_left 1; (focus (first | omega | (simp; done) | (simp; omega)))))); exact HB.out))
  replace HOX : Hid (Rd w3 (0) (w.heap.size) (X) (strs leaves)) := by rw [Hid, hw]; (repeat (first | (with_reducible refine Rd.alloc ?_ _) | (with_reducible refine Rd.drew ?_) | ((with_reducible refine Rd.setCell ?_ ?_ _); rotate_left 1; (focus (first | omega | (simp; done) | (simp; omega)))))); exact HOX.out
  replace HOR : Hid (Own w3 (w1.heap.size) (w2.heap.size) (A3) (strs gp)) := by rw [Hid, hw]; (repeat (first | (with_reducible refine Own.alloc ?_ _) | (with_reducible refine Own.drew ?_) | ((with_reducible refine Own.setCell ?_ ?_ _); rotate_left 1; (focus (first | omega | (simp; done) | (simp; omega)))))); exact HOR.out
  replace HXq : Hid (NewBox w3 (w.heap.size) [.int .i64 gs, .slice A3 gp.length c3]) := by rw [Hid, hw]; apply NewBox.cast; (focus ((repeat (first | (with_reducible apply NewBox.alloc) | (with_reducible apply NewBox.drew) | (with_reducible apply NewBox.set1) | ((with_reducible apply NewBox.far); (focus (first | omega | (simp; done) | (simp; omega)))))); exact HXq.out)); rfl
  clear hxq hfq hkq
  have hxq := HXq.out.2.1
  have hfq := HXq.out.2.2
  have hkq := HXq.out.1
  have HXv : Hid (NewBox w3 (w2.heap.size) [.int .i64 gs, .slice A3 gp.length c3]) := by rw [Hid, hw]; exact ⟨by first | omega | (simp [World.setCell]; done) | (simp [World.setCell]; omega), fun o => by rcases o with _ | _ | o <;> go_simp, fun o => by go_simp⟩
  have hxv := HXv.out.2.1
  have hfv := HXv.out.2.2
  have hkv := HXv.out.1
  clear hw
  refine bodyPost_ret (v := .tuple #[.agg #[.int .i64 gs, .slice A3 gp.length c3], .bool ok]) (by simp [results, Try.results58, go_sem, hxq]) rfl ?_
  exact ⟨A3, c3, rfl, HOR.out.mono (by omega) (by omega) (Nat.le_refl _), HB.out⟩
set_option maxRecDepth 100000 in
set_option maxHeartbeats 4000000 in
theorem specGrow_c (width z : Int) (A : Option Addr) (c lo hi m : Nat) (l : List ByteArray) (leaf : ByteArray) (w : World) (hr : Rd w lo hi A (strs l)) (hn : l.length = m) (hl : m ≤ 1048576) (hA : A = none → c = 0)
    (hls : leaf.size ≤ 1048576) (hz : I64 z) :
    Calls Try.prog 65 #[.int .i64 width, .agg #[.int .i64 z, .slice A m c], .string leaf] w fun e w' => ∃ A' c', e = .returned (.tuple #[.agg #[.int .i64 (gSize width z l [leaf]), .slice A' (gPeaks width z l [leaf]).length c'], .int .i64 (gCalls width z l [leaf]), .bool (growOk width z l [leaf])]) ∧
      Own w' w.heap.size w'.heap.size A' (strs (gPeaks width z l [leaf])) ∧ Below w.heap.size w w' := by
  have HGA := Lib.hid (fun W X (h1 : Rd W 0 W.heap.size A (strs l)) (h2 : Rd W 0 W.heap.size X (strs [leaf])) => specGrowAll_c width z A c 0 W.heap.size m l X 1 0 W.heap.size 1 [leaf] W h1 hn hl hA h2 rfl (by omega) hz)
  generalize growOk width z l [leaf] = ok at *
  generalize gSize width z l [leaf] = gs at *
  generalize gPeaks width z l [leaf] = gp at *
  generalize gCalls width z l [leaf] = gc at *
  have HB : Hid (Below w.heap.size w w) := Below.refl _ _
  have HOA : Hid (Rd w (0) (w.heap.size) (A) (strs l)) := Rd.base hr
  clear hr hn hA
  go_enter Try.func65, Try.ntmps65
  go_wp2_with fail
  refine calls_named (fun w1 hw => ?_)
  have hz1 : w.heap.size + 3 ≤ w1.heap.size := by rw [hw]; first | omega | (simp [World.setCell]; done) | (simp [World.setCell]; omega)
  have hzz1 : w.heap.size ≤ w1.heap.size := by omega
  replace HB : Hid (Below w.heap.size w w1) := by rw [Hid, hw]; exact (by ((repeat (first | ((with_reducible refine Below.alloc ?_ ?_ _); rotate_left 1; (focus (first | omega | (simp; done) | (simp; omega)))) | (with_reducible refine Below.drew ?_) | ((with_reducible refine Below.setCell ?_ ?_ _); rotate_left 1; (focus (first | omega | (simp; done) | (simp; omega)))))); exact HB.out))
  replace HOA : Hid (Rd w1 (0) (w.heap.size) (A) (strs l)) := by rw [Hid, hw]; (repeat (first | (with_reducible refine Rd.alloc ?_ _) | (with_reducible refine Rd.drew ?_) | ((with_reducible refine Rd.setCell ?_ ?_ _); rotate_left 1; (focus (first | omega | (simp; done) | (simp; omega)))))); exact HOA.out
  have HXr : Hid (NewBox w1 (w.heap.size) [.int .i64 z, .slice A m c]) := by rw [Hid, hw]; exact ⟨by first | omega | (simp [World.setCell]; done) | (simp [World.setCell]; omega), fun o => by rcases o with _ | _ | o <;> go_simp, fun o => by go_simp⟩
  have hxr := HXr.out.2.1
  have hfr := HXr.out.2.2
  have hkr := HXr.out.1
  have HXq : Hid (NewBox w1 (w.heap.size + 1) [.int .i64 0, .slice none 0 0]) := by rw [Hid, hw]; exact ⟨by first | omega | (simp [World.setCell]; done) | (simp [World.setCell]; omega), fun o => by rcases o with _ | _ | o <;> go_simp, fun o => by go_simp⟩
  have hxq := HXq.out.2.1
  have hfq := HXq.out.2.2
  have hkq := HXq.out.1
  have HXb : Hid (NewBox w1 (w.heap.size + 2) [.string leaf]) := by rw [Hid, hw]; exact ⟨by first | omega | (simp [World.setCell]; done) | (simp [World.setCell]; omega), fun o => by rcases o with _ | o <;> go_simp, fun o => by go_simp⟩
  have hxb := HXb.out.2.1
  have hfb := HXb.out.2.2
  have hkb := HXb.out.1
  clear hw
  refine (HGA.out _ _ HOA.out.base (NewBox.rd (cs := strs [leaf]) HXb.out)).mono ?_
  rintro e w2 ⟨A3, c3, rfl, hown3, hb⟩
  have hzw2 : w1.heap.size ≤ w2.heap.size := hb.size
  have hzzw2 : w.heap.size ≤ w2.heap.size := by omega
  replace HB : Hid (Below w.heap.size w w2) := below_then HB.out hb HB.out.size
  replace HOA : Hid (Rd w2 (0) (w.heap.size) (A) (strs l)) := HOA.out.below hb
  replace HXr : Hid (NewBox w2 (w.heap.size) [.int .i64 z, .slice A m c]) := HXr.out.below hb
  clear hxr hfr hkr
  have hxr := HXr.out.2.1
  have hfr := HXr.out.2.2
  have hkr := HXr.out.1
  replace HXq : Hid (NewBox w2 (w.heap.size + 1) [.int .i64 0, .slice none 0 0]) := HXq.out.below hb
  clear hxq hfq hkq
  have hxq := HXq.out.2.1
  have hfq := HXq.out.2.2
  have hkq := HXq.out.1
  replace HXb : Hid (NewBox w2 (w.heap.size + 2) [.string leaf]) := HXb.out.below hb
  clear hxb hfb hkb
  have hxb := HXb.out.2.1
  have hfb := HXb.out.2.2
  have hkb := HXb.out.1
  clear hb
  have HOR : Hid (Own w2 (w1.heap.size) (w2.heap.size) (A3) (strs gp)) := hown3
  have hb3 : w.heap.size + 3 ≤ w1.heap.size := by omega
  clear hown3
  go_wp2
  refine bodyPost_named (fun w3 hw => ?_)
  have hz3 : w2.heap.size + 0 ≤ w3.heap.size := by rw [hw]; first | omega | (simp [World.setCell]; done) | (simp [World.setCell]; omega)
  have hzz3 : w.heap.size ≤ w3.heap.size := by omega
  replace HB : Hid (Below w.heap.size w w3) := by rw [Hid, hw]; exact (by ((repeat (first | ((with_reducible refine Below.alloc ?_ ?_ _); rotate_left 1; (focus (first | omega | (simp; done) | (simp; omega)))) | (with_reducible refine Below.drew ?_) | ((with_reducible refine Below.setCell ?_ ?_ _); rotate_left 1; (focus (first | omega | (simp; done) | (simp; omega)))))); exact HB.out))
  replace HOA : Hid (Rd w3 (0) (w.heap.size) (A) (strs l)) := by rw [Hid, hw]; (repeat (first | (with_reducible refine Rd.alloc ?_ _) | (with_reducible refine Rd.drew ?_) | ((with_reducible refine Rd.setCell ?_ ?_ _); rotate_left 1; (focus (first | omega | (simp; done) | (simp; omega)))))); exact HOA.out
  replace HOR : Hid (Own w3 (w1.heap.size) (w2.heap.size) (A3) (strs gp)) := by rw [Hid, hw]; (repeat (first | (with_reducible refine Own.alloc ?_ _) | (with_reducible refine Own.drew ?_) | ((with_reducible refine Own.setCell ?_ ?_ _); rotate_left 1; (focus (first | omega | (simp; done) | (simp; omega)))))); exact HOR.out
  replace HXr : Hid (NewBox w3 (w.heap.size) [.int .i64 z, .slice A m c]) := by rw [Hid, hw]; (repeat (first | (with_reducible refine NewBox.alloc ?_ _) | (with_reducible refine NewBox.drew ?_) | ((with_reducible refine NewBox.setCell ?_ ?_ _); rotate_left 1; (focus (first | omega | (simp; done) | (simp; omega)))))); exact HXr.out
  clear hxr hfr hkr
  have hxr := HXr.out.2.1
  have hfr := HXr.out.2.2
  have hkr := HXr.out.1
  replace HXq : Hid (NewBox w3 (w.heap.size + 1) [.int .i64 gs, .slice A3 gp.length c3]) := by rw [Hid, hw]; apply NewBox.cast; (focus ((repeat (first | (with_reducible apply NewBox.alloc) | (with_reducible apply NewBox.drew) | (with_reducible apply NewBox.set1) | ((with_reducible apply NewBox.far); (focus (first | omega | (simp; done) | (simp; omega)))))); exact HXq.out)); rfl
  clear hxq hfq hkq
  have hxq := HXq.out.2.1
  have hfq := HXq.out.2.2
  have hkq := HXq.out.1
  replace HXb : Hid (NewBox w3 (w.heap.size + 2) [.string leaf]) := by rw [Hid, hw]; (repeat (first | (with_reducible refine NewBox.alloc ?_ _) | (with_reducible refine NewBox.drew ?_) | ((with_reducible refine NewBox.setCell ?_ ?_ _); rotate_left 1; (focus (first | omega | (simp; done) | (simp; omega)))))); exact HXb.out
  clear hxb hfb hkb
  have hxb := HXb.out.2.1
  have hfb := HXb.out.2.2
  have hkb := HXb.out.1
  clear hw
  refine bodyPost_ret (v := .tuple #[.agg #[.int .i64 gs, .slice A3 gp.length c3], .int .i64 gc, .bool ok]) (by simp [results, Try.results65, go_sem, hxq]) rfl ?_
  exact ⟨A3, c3, rfl, HOR.out.mono (by omega) (by omega) (Nat.le_refl _), HB.out⟩
end Go.Proofs.Ytojjjhbiccgjkaa
