/- l02Mixed of the reference. Digest of the reference. Numbers in bytes. Hashes of nodes, of nothing; frames. -/
import Derived.Test.YtojjjhbiccgjkaaRef7
namespace Go.Proofs.Ytojjjhbiccgjkaa
set_option linter.unusedVariables false
set_option linter.unusedSimpArgs false
open Go.RowKit

theorem blockAt_extract (t : ByteArray) (a : Nat) (h : a + 64 ≤ t.size) : blockAt (t.extract a (a + 64)) 0 = blockAt t a := by
  apply List.map_congr_left
  intro i hi
  rw [List.mem_range] at hi
  rw [wAt_extract t a (a + 64) (0 + 4 * i) (by omega) (by omega), Nat.zero_add]
set_option maxRecDepth 100000 in
set_option maxHeartbeats 400000 in
theorem l02Mixed_c (A : Option Addr) (c lo hi : Nat) (s : List Int) (t : ByteArray) (w : World) (hs : Wds 8 s) (ht : t.size ≤ 100000) (hA : Rd w lo hi A (ws s)) :
    Calls Try.prog 161 #[.slice A 8 c, .string t] w fun e w' => ∃ A' c', e = .returned (.slice A' 8 c') ∧ Below w.heap.size w w' ∧ Rd w' 0 w'.heap.size A' (ws (mixText s t (t.size / 64))) := by
  have HS := Lib.hid hs
  have HA := Lib.hid hA.base
  have ht2 : (t.size : Int) ≤ 100000 := by omega
  clear hs hA
  go_enter Try.func161, Try.ntmps161
  go_wp2
  go_loopw [0, 5] (fun v i wx => ∃ (k : Nat) (A0 : Option Addr) (c0 : Nat), 64 * k ≤ t.size ∧ i = .int .i64 (64 * k : Nat) ∧ v = .slice A0 8 c0 ∧ Below w.heap.size w wx ∧ Rd wx 0 wx.heap.size A0 (ws (mixText s t k))) (fun _ i _ => t.size - (intOf i).toNat)
  case atStart => exact ⟨0, A, c, by omega, rfl, rfl, Below.refl _ _, HA.out⟩
  case round =>
    obtain ⟨k, A0, c0, hk, rfl, rfl, hb, hx⟩ := hrel
    have HV : Hid (Wds 8 (mixText s t k)) := mixText_w HS.out t k
    have HMK : Hid (mixText s t (k + 1) = mixAll1 (mixText s t k) (blockAt t (64 * k))) := Lib.hid rfl
    have HB := Lib.hid hb
    have HX := Lib.hid hx
    obtain ⟨m, hm⟩ : ∃ m, m = 64 * k := ⟨_, rfl⟩
    rw [← hm] at HMK
    rw [← hm]
    have HM := Lib.hid hm
    have hk2 : m ≤ t.size := by omega
    clear hb hx hk
    by_cases h64 : m + 64 ≤ t.size
    · have hkk : k + 1 ≤ t.size / 64 := by omega
      have hbe := blockAt_extract t m h64
      have hbw := blockAt_wds t m
      have hse : (t.extract m (m + 64)).size = 64 := by rw [ByteArray.size_extract]; omega
      have HW := fun W => specWordsOf_c (t.extract m (m + 64)) W hse
      rw [hbe] at HW
      have HW2 := Lib.hid HW
      have HBW := Lib.hid hbw
      have h64i : (m : Int) + 64 ≤ t.size := by omega
      generalize blockAt t m = bl at *
      clear hm HW hbe hbw hse
      go_wp2_with fail
      refine (HW2.out _).mono ?_
      rintro e w1 ⟨A1, c1, rfl, hb1, hr1⟩
      have HX1 := Lib.hid (HX.out.below hb1)
      have HR1 := Lib.hid hr1
      have HB1 := Lib.hid (below_then HB.out hb1 HB.out.size)
      clear hb1 hr1 HX HB
      go_wp2_with fail
      refine (specMixIn_c A0 A1 c0 c1 _ _ _ _ _ bl _ HV.out HBW.out HX1.out HR1.out).mono ?_
      rintro e w2 ⟨A2, c2, rfl, hb2, hr2⟩
      have HR2 := Lib.hid hr2
      have HB2 := Lib.hid (below_then HB1.out hb2 HB1.out.size)
      clear hb2 hr2 HX1 HB1
      go_wp2
      go_roundw
      case rel =>
        have := HM.out
        refine ⟨k + 1, A2, c2, by omega, ?_, rfl, HB2.out, ?_⟩
        · rw [show 64 * (k + 1) = m + 64 by omega]; rfl
        · rw [HMK.out]; exact HR2.out.base
      case measure => simp [intOf]; omega
    · have hkk : k = t.size / 64 := by omega
      have h64i : ¬ (m : Int) + 64 ≤ t.size := by omega
      have HKK := Lib.hid hkk
      clear hm hkk
      go_wp2
      go_ret
      exact ⟨A0, ⟨c0, rfl⟩, HB.out, by rw [← HKK.out]; exact HX.out⟩
end Go.Proofs.Ytojjjhbiccgjkaa

namespace Go.Proofs.Ytojjjhbiccgjkaa
set_option linter.unusedVariables false
set_option linter.unusedSimpArgs false
open Go.RowKit

set_option maxRecDepth 100000 in
set_option maxHeartbeats 400000 in
theorem specDigest_c (width tag : Int) (t : ByteArray) (w : World) (ht : t.size ≤ maxLen) : Calls Try.prog 101 #[.int .i64 width, .int .i64 tag, .string t] w fun e w' => e = .returned (.tuple #[.string (digM width tag t), .bool (digOk width tag t)]) ∧ Below w.heap.size w w' := by
  unfold maxLen at ht
  have hbad : digOk width tag t = false → (.tuple #[.string (digM width tag t), .bool (digOk width tag t)] : Value) = .tuple #[.string ⟨#[]⟩, .bool false] := fun h => by rw [digM, h]; rfl
  have HBAD := Lib.hid hbad
  clear hbad
  go_enter Try.func101, Try.ntmps101
  go_wp2_with fail
  refine (specStartOf_c tag _).mono ?_
  rintro e w1 ⟨A1, n1, c1, rfl, hb1, hr1⟩
  have HB1 := Lib.hid hb1
  have HR1 := Lib.hid hr1
  clear hb1 hr1
  rcases (show t.size ≤ 4000 ∨ 4000 < t.size by omega) with h3 | h3
  · go_wp2_with fail
    refine (specPadOf_c t.size _ h3).mono ?_
    rintro e w2 ⟨rfl, hb2⟩
    have HB2 := Lib.hid (below_then HB1.out hb2 HB1.out.size)
    have HR2 : Hid (inR tag 0 255 = true → n1 = 8 ∧ Rd w2 0 w2.heap.size A1 (ws (firstW tag))) := fun h => ⟨(HR1.out h).1, ((HR1.out h).2.below hb2).base⟩
    clear hb2 HB1 HR1
    go_wp2_with fail
    refine (l02Width_c width _).mono ?_
    rintro e w3 ⟨rfl, rfl⟩
    rcases hq1 : inR width 1 32 with _ | _
    · have hd : digOk width tag t = false := by rw [digOk, hq1]; rfl
      have HD := Lib.hid (HBAD.out hd)
      go_wp2
      refine bodyPost_ret (v := .tuple #[.string ⟨#[]⟩, .bool false]) (by simp [results, Try.results101, go_sem]) rfl ?_
      exact ⟨by rw [HD.out], HB2.out⟩
    · have HQ1 := Lib.hid hq1
      clear hq1
      rcases hq2 : inR tag 0 255 with _ | _
      · have hd : digOk width tag t = false := by rw [digOk, HQ1.out, hq2]; rfl
        have HD := Lib.hid (HBAD.out hd)
        go_wp2
        refine bodyPost_ret (v := .tuple #[.string ⟨#[]⟩, .bool false]) (by simp [results, Try.results101, go_sem]) rfl ?_
        exact ⟨by rw [HD.out], HB2.out⟩
      · obtain ⟨hn8, hR⟩ := HR2.out hq2
        subst hn8
        have HQ2 := Lib.hid hq2
        clear hq2 HR2
        have hd : digOk width tag t = true := by rw [digOk, HQ1.out, HQ2.out, decide_eq_true h3]; rfl
        obtain ⟨wi, rfl⟩ : ∃ n : Nat, width = n := ⟨width.toNat, by have := inR_true.1 HQ1.out; omega⟩
        have hr := inR_true.1 HQ2.out
        have hwi : wi ≤ 32 := by have := inR_true.1 HQ1.out; omega
        have hm : digM wi tag t = digT wi tag t := by rw [digM, hd]; rfl
        have hv : digT wi tag t = chainT wi (mixText (firstW tag) (t ++ padT t.size) ((t ++ padT t.size).size / 64)) := by rw [digT, Int.toNat_natCast]
        have HV := Lib.hid (hm.trans hv)
        have HD := Lib.hid hd
        have HRR := Lib.hid hR
        clear hd hm hv HBAD hR
        have hpz : (padT t.size).size ≤ 80 := by rw [padT_size]; omega
        have hts : (t ++ padT t.size).size ≤ 5000 := by rw [ByteArray.size_append]; omega
        have hca := fun (W : World) => run_string_add_sum (P := Try.prog) W t (padT t.size) (by omega)
        have hMX := fun W h => l02Mixed_c A1 c1 0 w2.heap.size (firstW tag) (t ++ padT t.size) W (firstW_wds tag) (by omega) h
        have hmw := mixText_w (firstW_wds tag) (t ++ padT t.size) ((t ++ padT t.size).size / 64)
        have HMW := Lib.hid hmw
        have HMX := Lib.hid hMX
        clear hmw hMX
        generalize padT t.size = pd at *
        generalize t ++ pd = tt at *
        go_wp2_with fail
        refine (HMX.out _ HRR.out).mono ?_
        rintro e w4 ⟨A4, c4, rfl, hb4, hr4⟩
        have HB4 := Lib.hid (below_then HB2.out hb4 HB2.out.size)
        have HR4 := Lib.hid hr4
        clear hb4 HB2 HMX HRR hr4
        go_wp2_with fail
        refine (l02First_c wi A4 c4 _ _ _ _ hwi HMW.out HR4.out).mono ?_
        rintro e w5 ⟨rfl, hb5⟩
        have HB5 := Lib.hid (below_then HB4.out hb5 HB4.out.size)
        clear hb5 HB4
        rw [← HV.out]
        go_wp2
        refine bodyPost_ret (v := .tuple #[.string (digM wi tag t), .bool true]) (by simp [results, Try.results101, go_sem]) rfl ?_
        exact ⟨by rw [HD.out], HB5.out⟩
  · have hd : digOk width tag t = false := by rw [digOk, decide_eq_false (by omega), Bool.and_false]
    have HD := Lib.hid (HBAD.out hd)
    go_wp2_with fail
    refine (specPadOf_no t.size _ h3).mono ?_
    rintro e w2 ⟨rfl, hb2⟩
    have HB2 := Lib.hid (below_then HB1.out hb2 HB1.out.size)
    clear hb2 HB1 HR1
    go_wp2_with fail
    refine (l02Width_c width _).mono ?_
    rintro e w3 ⟨rfl, rfl⟩
    generalize inR width 1 32 = q1 at *
    generalize inR tag 0 255 = q2 at *
    cases q1 <;> cases q2 <;> go_wp2 <;> (refine bodyPost_ret (v := .tuple #[.string ⟨#[]⟩, .bool false]) (by simp [results, Try.results101, go_sem]) rfl ?_) <;> exact ⟨by rw [HD.out], HB2.out⟩
end Go.Proofs.Ytojjjhbiccgjkaa

namespace Go.Proofs.Ytojjjhbiccgjkaa
set_option linter.unusedVariables false
set_option linter.unusedSimpArgs false
open Go.RowKit

def octB (n : Int) : ByteArray := strOfNums [n % 256]
theorem octB_size (n : Int) : (octB n).size = 1 := rfl
def pairB (n : Int) : ByteArray := octB (n / 256) ++ octB n
theorem pairB_size (n : Int) : (pairB n).size = 2 := rfl
def divN (n : Int) : Nat → Int
  | 0 => n
  | j + 1 => divN n j / 256
def numUp (n : Int) : Nat → ByteArray
  | 0 => ByteArray.empty
  | j + 1 => octB (divN n j) ++ numUp n j
theorem numUp_size (n : Int) : ∀ j, (numUp n j).size = j
  | 0 => rfl
  | j + 1 => by rw [numUp, ByteArray.size_append, octB_size, numUp_size n j]; omega
theorem divN_bd {n : Int} (h0 : 0 ≤ n) (h : n ≤ 4611686018427387904) : ∀ j, 0 ≤ divN n j ∧ divN n j ≤ 4611686018427387904
  | 0 => ⟨h0, h⟩
  | j + 1 => by have := divN_bd h0 h j; rw [divN]; omega
theorem numUp_1 (n : Int) : numUp n 1 = octB n := ByteArray.append_empty
theorem numUp_2 (n : Int) : numUp n 2 = pairB n := by
  show octB (n / 256) ++ (octB n ++ ByteArray.empty) = _
  rw [ByteArray.append_empty]; rfl
def shortB (t : ByteArray) : ByteArray := octB t.size ++ t

set_option maxRecDepth 100000 in
set_option maxHeartbeats 400000 in
theorem octet_c (n : Int) (w : World) (h0 : 0 ≤ n) (h : n ≤ 4611686018427387904) : Calls Try.prog 167 #[.int .i64 n] w fun e w' => e = .returned (.string (octB n)) ∧ Below w.heap.size w w' := by
  have hc := conv_1 (P := Try.prog) 119 5 9 rfl rfl rfl w (n % 256)
  go_enter Try.func167, Try.ntmps167
  go_wp2
  go_ret
  exact ⟨rfl, (Below.refl _ _).alloc (Nat.le_refl _) _⟩
set_option maxRecDepth 100000 in
set_option maxHeartbeats 400000 in
theorem pair_c (n : Int) (w : World) (h0 : 0 ≤ n) (h : n ≤ 100000000) : Calls Try.prog 105 #[.int .i64 n] w fun e w' => e = .returned (.string (pairB n)) ∧ Below w.heap.size w w' := by
  have hP : pairB n = octB (n / 256) ++ octB n := rfl
  have HP := Lib.hid hP
  clear hP
  have h1 := octB_size (n / 256)
  have h2 := octB_size n
  have hs := fun W => run_string_add_sum (P := Try.prog) W (octB (n / 256)) (octB n) (by omega)
  obtain ⟨m, hm⟩ : ∃ m, m = n / 256 := ⟨_, rfl⟩
  have c1 := fun W => octet_c m W (by omega) (by omega)
  have c2 := fun W => octet_c n W (by omega) (by omega)
  have H1 := Lib.hid c1
  have H2 := Lib.hid c2
  rw [← hm] at hs
  have HM := Lib.hid hm
  clear c1 c2 h1 h2
  generalize ho1 : octB m = o1 at *
  generalize ho2 : octB n = o2 at *
  have HO := Lib.hid ho1
  have HO2 := Lib.hid ho2
  clear ho1 ho2 hm
  go_enter Try.func105, Try.ntmps105
  go_wp2_with fail
  rw [← HM.out]
  refine (H1.out _).mono ?_
  rintro e w1 ⟨rfl, hb1⟩
  have HB1 := Lib.hid hb1
  clear hb1
  go_wp2_with fail
  refine (H2.out _).mono ?_
  rintro e w2 ⟨rfl, hb2⟩
  have HB2 := Lib.hid (below_then HB1.out hb2 HB1.out.size)
  clear hb2 HB1
  go_wp2
  go_ret
  exact ⟨by rw [HP.out, ← HM.out, HO.out]; rfl, HB2.out⟩
set_option maxRecDepth 100000 in
set_option maxHeartbeats 400000 in
theorem short_c (t : ByteArray) (w : World) (h : t.size ≤ 100000000) : Calls Try.prog 240 #[.string t] w fun e w' => e = .returned (.string (shortB t)) ∧ Below w.heap.size w w' := by
  have h1 := octB_size t.size
  have hP : shortB t = octB t.size ++ t := rfl
  have HP := Lib.hid hP
  have hs := fun W => run_string_add_sum (P := Try.prog) W (octB t.size) t (by omega)
  have c1 := fun W => octet_c t.size W (by omega) (by omega)
  have H1 := Lib.hid c1
  clear c1 h1 hP
  generalize octB t.size = o1 at *
  go_enter Try.func240, Try.ntmps240
  go_wp2_with fail
  refine (H1.out _).mono ?_
  rintro e w1 ⟨rfl, hb1⟩
  have HB1 := Lib.hid hb1
  clear hb1
  go_wp2
  go_ret
  exact ⟨by rw [HP.out]; rfl, HB1.out⟩
set_option maxRecDepth 100000 in
set_option maxHeartbeats 400000 in
theorem l03Number_c (n : Int) (k : Nat) (w : World) (h0 : 0 ≤ n) (h : n ≤ 4611686018427387904) (hk : k ≤ 8) : Calls Try.prog 102 #[.int .i64 n, .int .i64 k] w fun e w' => e = .returned (.string (numUp n k)) ∧ Below w.heap.size w w' := by
  go_enter Try.func102, Try.ntmps102
  go_wp2
  go_loopw [0, 5, 6] (fun x s i wx => ∃ j : Nat, j ≤ k ∧ i = .int .i64 j ∧ x = .int .i64 (divN n j) ∧ s = .string (numUp n j) ∧ Below w.heap.size w wx) (fun _ _ i _ => k - (intOf i).toNat)
  case atStart => exact ⟨0, Nat.zero_le _, rfl, rfl, rfl, Below.refl _ _⟩
  case round =>
    obtain ⟨j, hj, rfl, rfl, rfl, hb⟩ := hrel
    have HB := Lib.hid hb
    have hz := hb.size
    clear hb
    by_cases hlt : j < k
    · obtain ⟨d0, d1⟩ := divN_bd h0 h j
      have hD : divN n (j + 1) = divN n j / 256 := rfl
      have hN : numUp n (j + 1) = octB (divN n j) ++ numUp n j := rfl
      have hns := numUp_size n j
      have HD := Lib.hid hD
      have HN := Lib.hid hN
      clear hD hN
      generalize divN n j = d at *
      generalize numUp n j = s at *
      have hoct : octB d = strOfNums [d % 256] := rfl
      have hc := fun W : World => conv_1 (P := Try.prog) 119 5 9 rfl rfl rfl W (d % 256)
      have hos : (strOfNums [d % 256]).size = 1 := rfl
      have hsum := fun W : World => run_string_add_sum (P := Try.prog) W (strOfNums [d % 256]) s (by omega)
      have HO := Lib.hid hoct
      have E1 : d.tmod 256 = d % 256 := Int.tmod_eq_emod_of_nonneg d0
      have E2 : d.tdiv 256 = d / 256 := Int.tdiv_eq_ediv_of_nonneg d0
      clear hns hos hoct
      go_wp2
      go_roundw
      case rel => exact ⟨j + 1, by omega, by go_num, by rw [HD.out], by rw [HN.out, HO.out], HB.out.alloc hz _⟩
      case measure => simp [intOf]; omega
    · obtain rfl : j = k := by omega
      go_wp2
      go_ret
      exact ⟨rfl, HB.out⟩
set_option maxRecDepth 100000 in
set_option maxHeartbeats 400000 in
theorem l03Short_c (t : ByteArray) (w : World) (h : t.size ≤ 100000000) : Calls Try.prog 239 #[.string t] w fun e w' => e = .returned (.string (shortB t)) ∧ Below w.heap.size w w' := by
  have h1 := octB_size t.size
  have hP : shortB t = octB t.size ++ t := rfl
  have HP := Lib.hid hP
  have hs := fun W => run_string_add_sum (P := Try.prog) W (octB t.size) t (by omega)
  have c1 := fun W => l03Number_c t.size 1 W (by omega) (by omega) (by omega)
  simp only [numUp_1] at c1
  have H1 := Lib.hid c1
  clear c1 h1 hP
  generalize octB t.size = o1 at *
  go_enter Try.func239, Try.ntmps239
  go_wp2_with fail
  refine (H1.out _).mono ?_
  rintro e w1 ⟨rfl, hb1⟩
  have HB1 := Lib.hid hb1
  clear hb1
  go_wp2
  go_ret
  exact ⟨by rw [HP.out]; rfl, HB1.out⟩
end Go.Proofs.Ytojjjhbiccgjkaa

namespace Go.Proofs.Ytojjjhbiccgjkaa
set_option linter.unusedVariables false
set_option linter.unusedSimpArgs false
open Go.RowKit

def nodeT (width : Int) (a b : ByteArray) : ByteArray := digM width 1 (a ++ b)
def emptyT (width : Int) : ByteArray := digM width 5 ByteArray.empty
theorem digM_size {width tag : Int} {t : ByteArray} (h : digOk width tag t = true) : (digM width tag t).size = width.toNat := by
  have h1 : inR width 1 32 = true := by
    rw [digOk, Bool.and_eq_true, Bool.and_eq_true] at h; exact h.1.1
  have h2 := inR_true.1 h1
  rw [digM, if_pos h, digT, chainT, ByteArray.size_extract, textT_size, (mixText_w (firstW_wds tag) _ _).1]; omega
theorem digM_le (width tag : Int) (t : ByteArray) : (digM width tag t).size ≤ 32 := by
  by_cases h : digOk width tag t = true
  · have h1 : inR width 1 32 = true := by
      rw [digOk, Bool.and_eq_true, Bool.and_eq_true] at h; exact h.1.1
    have h2 := inR_true.1 h1
    rw [digM_size h]; omega
  · rw [digM, if_neg h]; exact Nat.zero_le _
theorem digOk_empty (width : Int) : digOk width 5 ByteArray.empty = inR width 1 32 := by
  rw [digOk]; simp [inR]
theorem digOk_node {width : Int} {a b : ByteArray} (hw : inR width 1 32 = true) (ha : (a.size : Int) = width) (hb : (b.size : Int) = width) : digOk width 1 (a ++ b) = true := by
  have h2 := inR_true.1 hw
  have h3 : (a ++ b).size ≤ 4000 := by rw [ByteArray.size_append]; omega
  rw [digOk, hw, decide_eq_true h3]; rfl
theorem nodeT_size {width : Int} {a b : ByteArray} (hw : inR width 1 32 = true) (ha : (a.size : Int) = width) (hb : (b.size : Int) = width) : ((nodeT width a b).size : Int) = width := by
  have h2 := inR_true.1 hw
  rw [nodeT, digM_size (digOk_node hw ha hb)]; omega
theorem emptyT_size {width : Int} (hw : inR width 1 32 = true) : ((emptyT width).size : Int) = width := by
  have h2 := inR_true.1 hw
  rw [emptyT, digM_size (by rw [digOk_empty, hw])]; omega
theorem emptyT_no {width : Int} (hw : inR width 1 32 = false) : emptyT width = ⟨#[]⟩ := by
  rw [emptyT, digM, digOk_empty, hw]; rfl
/-- a frame of a text -/
def frameB (t : ByteArray) : ByteArray := pairB t.size ++ digM 4 4 t ++ t
def frameOk (t : ByteArray) : Bool := inR t.size 1 1000
def frameM (t : ByteArray) : ByteArray := if frameOk t then frameB t else ByteArray.empty

set_option maxRecDepth 100000 in
set_option maxHeartbeats 400000 in
theorem node_c (width : Int) (a b : ByteArray) (w : World) (ha : a.size ≤ 100000000) (hb : b.size ≤ 100000000) : Calls Try.prog 172 #[.int .i64 width, .string a, .string b] w fun e w' => e = .returned (.string (nodeT width a b)) ∧ Below w.heap.size w w' := by
  have hs := fun W => run_string_add_sum (P := Try.prog) W a b (by omega)
  have hz : (a ++ b).size ≤ maxLen := by unfold maxLen; rw [ByteArray.size_append]; omega
  have hd := fun W => implDigest_c width 1 (a ++ b) W hz
  have HD := Lib.hid hd
  have hn : nodeT width a b = digM width 1 (a ++ b) := rfl
  rw [← hn] at HD
  clear hd hz hn
  generalize nodeT width a b = nd at *
  go_enter Try.func172, Try.ntmps172
  go_wp2_with fail
  refine (HD.out _).mono ?_
  rintro e w1 ⟨rfl, hb1⟩
  have HB1 := Lib.hid hb1
  clear hb1
  go_wp2
  go_ret
  exact ⟨rfl, HB1.out⟩
set_option maxRecDepth 100000 in
set_option maxHeartbeats 400000 in
theorem specNodeHash_c (width : Int) (a b : ByteArray) (w : World) (hw : inR width 1 32 = true) (ha : (a.size : Int) = width) (hb : (b.size : Int) = width) : Calls Try.prog 123 #[.int .i64 width, .string a, .string b] w fun e w' => e = .returned (.tuple #[.string (nodeT width a b), .bool true]) ∧ Below w.heap.size w w' := by
  have h2 := inR_true.1 hw
  have hs := fun W => run_string_add_sum (P := Try.prog) W a b (by omega)
  have hz : (a ++ b).size ≤ maxLen := by unfold maxLen; rw [ByteArray.size_append]; omega
  have hd := fun W => specDigest_c width 1 (a ++ b) W hz
  rw [digOk_node hw ha hb] at hd
  have HD := Lib.hid hd
  have hn : nodeT width a b = digM width 1 (a ++ b) := rfl
  rw [← hn] at HD
  have HQ := Lib.hid hw
  have hna : (a.size : Int) = width := ha
  clear hd hz hn hw
  subst hna
  generalize nodeT _ a b = nd at *
  go_enter Try.func123, Try.ntmps123
  go_wp2_with fail
  refine (l02Width_c _ _).mono ?_
  rintro e w1 ⟨rfl, rfl⟩
  rw [HQ.out]
  go_wp2_with fail
  refine (HD.out _).mono ?_
  rintro e w1 ⟨rfl, hb1⟩
  have HB1 := Lib.hid hb1
  clear hb1
  go_wp2
  refine bodyPost_ret (v := .tuple #[.string nd, .bool true]) (by simp [results, Try.results123, go_sem]) rfl ?_
  exact ⟨rfl, HB1.out⟩
set_option maxRecDepth 100000 in
set_option maxHeartbeats 400000 in
theorem implEmptyRoot_c (width : Int) (w : World) : Calls Try.prog 168 #[.int .i64 width] w fun e w' => e = .returned (.tuple #[.string (emptyT width), .bool (inR width 1 32)]) ∧ Below w.heap.size w w' := by
  have hd := fun W => implDigest_c width 5 ⟨#[]⟩ W (by unfold maxLen; exact Nat.zero_le _)
  have hn : digM width 5 ⟨#[]⟩ = emptyT width := rfl
  have hk : digOk width 5 ⟨#[]⟩ = inR width 1 32 := digOk_empty width
  rw [hn, hk] at hd
  have HD := Lib.hid hd
  clear hd hn hk
  generalize emptyT width = em at *
  generalize inR width 1 32 = q at *
  go_enter Try.func168, Try.ntmps168
  go_wp2_with fail
  refine (HD.out _).mono ?_
  rintro e w1 ⟨rfl, hb1⟩
  have HB1 := Lib.hid hb1
  clear hb1
  go_wp2
  refine bodyPost_ret (v := .tuple #[.string em, .bool q]) (by simp [results, Try.results168, go_sem]) rfl ?_
  exact ⟨rfl, HB1.out⟩
set_option maxRecDepth 100000 in
set_option maxHeartbeats 400000 in
theorem specEmptyRoot_c (width : Int) (w : World) : Calls Try.prog 106 #[.int .i64 width] w fun e w' => e = .returned (.tuple #[.string (emptyT width), .bool (inR width 1 32)]) ∧ Below w.heap.size w w' := by
  have hd := fun W => specDigest_c width 5 ⟨#[]⟩ W (by unfold maxLen; exact Nat.zero_le _)
  have hn : digM width 5 ⟨#[]⟩ = emptyT width := rfl
  have hk : digOk width 5 ⟨#[]⟩ = inR width 1 32 := digOk_empty width
  rw [hn, hk] at hd
  have HD := Lib.hid hd
  clear hd hn hk
  generalize emptyT width = em at *
  generalize inR width 1 32 = q at *
  go_enter Try.func106, Try.ntmps106
  go_wp2_with fail
  refine (HD.out _).mono ?_
  rintro e w1 ⟨rfl, hb1⟩
  have HB1 := Lib.hid hb1
  clear hb1
  go_wp2
  refine bodyPost_ret (v := .tuple #[.string em, .bool q]) (by simp [results, Try.results106, go_sem]) rfl ?_
  exact ⟨rfl, HB1.out⟩
set_option maxRecDepth 100000 in
set_option maxHeartbeats 400000 in
theorem emptyRoot_c (width : Int) (w : World) : Calls Try.prog 108 #[.int .i64 width] w fun e w' => e = .returned (.string (emptyT width)) ∧ Below w.heap.size w w' := by
  have HC := Lib.hid (fun W => implEmptyRoot_c width W)
  generalize emptyT width = em at *
  generalize inR width 1 32 = q at *
  go_enter Try.func108, Try.ntmps108
  go_wp2_with fail
  refine (HC.out _).mono ?_
  rintro e w1 ⟨rfl, hb1⟩
  have HB1 := Lib.hid hb1
  clear hb1
  go_wp2
  go_ret
  exact ⟨rfl, HB1.out⟩
set_option maxRecDepth 100000 in
set_option maxHeartbeats 400000 in
theorem implFrame_c (t : ByteArray) (w : World) (ht : t.size ≤ 1048576) : Calls Try.prog 27 #[.string t] w fun e w' => e = .returned (.tuple #[.string (frameM t), .bool (frameOk t)]) ∧ Below w.heap.size w w' := by
  have HR := Lib.hid (fun W => inRange_c (t.size : Nat) 1 1000 W)
  have HO : Hid (frameOk t = inR t.size 1 1000) := Lib.hid rfl
  rcases hq : inR (t.size : Nat) 1 1000 with _ | _
  · have hm : Hid (frameM t = ⟨#[]⟩) := by rw [Hid, frameM, frameOk, hq]; rfl
    rw [hq] at HO HR
    clear hq
    go_enter Try.func27, Try.ntmps27
    go_wp2_with fail
    refine (HR.out _).mono ?_
    rintro e w1 ⟨rfl, rfl⟩
    go_wp2
    refine bodyPost_ret (v := .tuple #[.string ⟨#[]⟩, .bool false]) (by simp [results, Try.results27, go_sem]) rfl ?_
    exact ⟨by rw [hm.out, HO.out], Below.refl _ _⟩
  · have hsz := inR_true.1 hq
    have hm : Hid (frameM t = pairB t.size ++ digM 4 4 t ++ t) := by rw [Hid, frameM, frameOk, hq]; rfl
    rw [hq] at HO HR
    have hd := fun W => implDigest_c 4 4 t W (by unfold maxLen; omega)
    have hp := fun W => pair_c t.size W (by omega) (by omega)
    try rw [numUp_2] at hp
    try have hp := fun W => hp W (by omega)
    have HD := Lib.hid hd
    have HP := Lib.hid hp
    have hz1 := digM_le 4 4 t
    have hz2 := pairB_size t.size
    clear hd hp hq
    generalize digM 4 4 t = dg at *
    generalize pairB t.size = pr at *
    have hs1 := fun W => run_string_add_sum (P := Try.prog) W pr dg (by omega)
    have hz3 : (pr ++ dg).size ≤ 40 := by rw [ByteArray.size_append]; omega
    obtain ⟨pd, hpd⟩ : ∃ x, x = pr ++ dg := ⟨_, rfl⟩
    rw [← hpd] at hs1 hz3
    have hs2 := fun W => run_string_add_sum (P := Try.prog) W pd t (by omega)
    have HPD := Lib.hid hpd
    clear hpd
    go_enter Try.func27, Try.ntmps27
    go_wp2_with fail
    refine (HR.out _).mono ?_
    rintro e w1 ⟨rfl, rfl⟩
    go_wp2_with fail
    refine (HD.out _).mono ?_
    rintro e w1 ⟨rfl, hb1⟩
    have HB1 := Lib.hid hb1
    clear hb1
    generalize digOk 4 4 t = q4 at *
    go_wp2_with fail
    refine (HP.out _).mono ?_
    rintro e w2 ⟨rfl, hb2⟩
    have HB2 := Lib.hid (below_then HB1.out hb2 HB1.out.size)
    clear hb2 HB1
    go_wp2
    refine bodyPost_ret (v := .tuple #[.string (pd ++ t), .bool true]) (by simp [results, Try.results27, go_sem]) rfl ?_
    exact ⟨by rw [hm.out, HO.out, HPD.out], HB2.out⟩
set_option maxRecDepth 100000 in
set_option maxHeartbeats 400000 in
theorem specFrame_c (t : ByteArray) (w : World) (ht : t.size ≤ 1048576) : Calls Try.prog 26 #[.string t] w fun e w' => e = .returned (.tuple #[.string (frameM t), .bool (frameOk t)]) ∧ Below w.heap.size w w' := by
  have HR := Lib.hid (fun W => l01In_c (t.size : Nat) 1 1000 W)
  have HO : Hid (frameOk t = inR t.size 1 1000) := Lib.hid rfl
  rcases hq : inR (t.size : Nat) 1 1000 with _ | _
  · have hm : Hid (frameM t = ⟨#[]⟩) := by rw [Hid, frameM, frameOk, hq]; rfl
    rw [hq] at HO HR
    clear hq
    go_enter Try.func26, Try.ntmps26
    go_wp2_with fail
    refine (HR.out _).mono ?_
    rintro e w1 ⟨rfl, rfl⟩
    go_wp2
    refine bodyPost_ret (v := .tuple #[.string ⟨#[]⟩, .bool false]) (by simp [results, Try.results26, go_sem]) rfl ?_
    exact ⟨by rw [hm.out, HO.out], Below.refl _ _⟩
  · have hsz := inR_true.1 hq
    have hm : Hid (frameM t = pairB t.size ++ digM 4 4 t ++ t) := by rw [Hid, frameM, frameOk, hq]; rfl
    rw [hq] at HO HR
    have hd := fun W => specDigest_c 4 4 t W (by unfold maxLen; omega)
    have hp := fun W => l03Number_c t.size 2 W (by omega) (by omega)
    try rw [numUp_2] at hp
    try have hp := fun W => hp W (by omega)
    have HD := Lib.hid hd
    have HP := Lib.hid hp
    have hz1 := digM_le 4 4 t
    have hz2 := pairB_size t.size
    clear hd hp hq
    generalize digM 4 4 t = dg at *
    generalize pairB t.size = pr at *
    have hs1 := fun W => run_string_add_sum (P := Try.prog) W pr dg (by omega)
    have hz3 : (pr ++ dg).size ≤ 40 := by rw [ByteArray.size_append]; omega
    obtain ⟨pd, hpd⟩ : ∃ x, x = pr ++ dg := ⟨_, rfl⟩
    rw [← hpd] at hs1 hz3
    have hs2 := fun W => run_string_add_sum (P := Try.prog) W pd t (by omega)
    have HPD := Lib.hid hpd
    clear hpd
    go_enter Try.func26, Try.ntmps26
    go_wp2_with fail
    refine (HR.out _).mono ?_
    rintro e w1 ⟨rfl, rfl⟩
    go_wp2_with fail
    refine (HD.out _).mono ?_
    rintro e w1 ⟨rfl, hb1⟩
    have HB1 := Lib.hid hb1
    clear hb1
    generalize digOk 4 4 t = q4 at *
    go_wp2_with fail
    refine (HP.out _).mono ?_
    rintro e w2 ⟨rfl, hb2⟩
    have HB2 := Lib.hid (below_then HB1.out hb2 HB1.out.size)
    clear hb2 HB1
    go_wp2
    refine bodyPost_ret (v := .tuple #[.string (pd ++ t), .bool true]) (by simp [results, Try.results26, go_sem]) rfl ?_
    exact ⟨by rw [hm.out, HO.out, HPD.out], HB2.out⟩
end Go.Proofs.Ytojjjhbiccgjkaa

