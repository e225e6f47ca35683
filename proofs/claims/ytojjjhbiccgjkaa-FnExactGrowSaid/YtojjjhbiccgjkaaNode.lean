/- Hashes of nodes, of nothing; frames. -/
import Derived.Test.YtojjjhbiccgjkaaOct
namespace Go.Proofs.Ytojjjhbiccgjkaa
set_option linter.unusedVariables false
set_option linter.unusedSimpArgs false
open Go.RowKit

def nodeT (width : Int) (a b : ByteArray) : ByteArray := digM width 1 (a ++ b)
def emptyT (width : Int) : ByteArray := digM width 5 ByteArray.empty
theorem digM_size {width tag : Int} {t : ByteArray} (h : digOk width tag t = true) : (digM width tag t).size = width.toNat := by
  have h1 : inR width 1 32 = true := by
    rw [digOk, Bool.and_eq_true, Bool.and_eq_true] at h; exact h.1.1
  have h2 := inR_true.1 h1
  rw [digM, if_pos h, digT, chainT, ByteArray.size_extract, textT_size, (mixText_w (firstW_wds tag) _ _).1]; omega
theorem digM_le (width tag : Int) (t : ByteArray) : (digM width tag t).size ≤ 32 := by
  by_cases h : digOk width tag t = true
  · have h1 : inR width 1 32 = true := by
      rw [digOk, Bool.and_eq_true, Bool.and_eq_true] at h; exact h.1.1
    have h2 := inR_true.1 h1
    rw [digM_size h]; omega
  · rw [digM, if_neg h]; exact Nat.zero_le _
theorem digOk_empty (width : Int) : digOk width 5 ByteArray.empty = inR width 1 32 := by
  rw [digOk]; simp [inR]
theorem digOk_node {width : Int} {a b : ByteArray} (hw : inR width 1 32 = true) (ha : (a.size : Int) = width) (hb : (b.size : Int) = width) : digOk width 1 (a ++ b) = true := by
  have h2 := inR_true.1 hw
  have h3 : (a ++ b).size ≤ 4000 := by rw [ByteArray.size_append]; omega
  rw [digOk, hw, decide_eq_true h3]; rfl
theorem nodeT_size {width : Int} {a b : ByteArray} (hw : inR width 1 32 = true) (ha : (a.size : Int) = width) (hb : (b.size : Int) = width) : ((nodeT width a b).size : Int) = width := by
  have h2 := inR_true.1 hw
  rw [nodeT, digM_size (digOk_node hw ha hb)]; omega
theorem emptyT_size {width : Int} (hw : inR width 1 32 = true) : ((emptyT width).size : Int) = width := by
  have h2 := inR_true.1 hw
  rw [emptyT, digM_size (by rw [digOk_empty, hw])]; omega
theorem emptyT_no {width : Int} (hw : inR width 1 32 = false) : emptyT width = ⟨#[]⟩ := by
  rw [emptyT, digM, digOk_empty, hw]; rfl
/-- a frame of a text -/
def frameB (t : ByteArray) : ByteArray := pairB t.size ++ digM 4 4 t ++ t
def frameOk (t : ByteArray) : Bool := inR t.size 1 1000
def frameM (t : ByteArray) : ByteArray := if frameOk t then frameB t else ByteArray.empty

set_option maxRecDepth 100000 in
set_option maxHeartbeats 400000 in
theorem node_c (width : Int) (a b : ByteArray) (w : World) (ha : a.size ≤ 100000000) (hb : b.size ≤ 100000000) : Calls Try.prog 172 #[.int .i64 width, .string a, .string b] w fun e w' => e = .returned (.string (nodeT width a b)) ∧ Below w.heap.size w w' := by
  have hs := fun W => run_string_add_sum (P := Try.prog) W a b (by omega)
  have hz : (a ++ b).size ≤ maxLen := by unfold maxLen; rw [ByteArray.size_append]; omega
  have hd := fun W => implDigest_c width 1 (a ++ b) W hz
  have HD := Lib.hid hd
  have hn : nodeT width a b = digM width 1 (a ++ b) := rfl
  rw [← hn] at HD
  clear hd hz hn
  generalize nodeT width a b = nd at *
  go_enter Try.func172, Try.ntmps172
  go_wp2_with fail
  refine (HD.out _).mono ?_
  rintro e w1 ⟨rfl, hb1⟩
  have HB1 := Lib.hid hb1
  clear hb1
  go_wp2
  go_ret
  exact ⟨rfl, HB1.out⟩
set_option maxRecDepth 100000 in
set_option maxHeartbeats 400000 in
theorem specNodeHash_c (width : Int) (a b : ByteArray) (w : World) (hw : inR width 1 32 = true) (ha : (a.size : Int) = width) (hb : (b.size : Int) = width) : Calls Try.prog 123 #[.int .i64 width, .string a, .string b] w fun e w' => e = .returned (.tuple #[.string (nodeT width a b), .bool true]) ∧ Below w.heap.size w w' := by
  have h2 := inR_true.1 hw
  have hs := fun W => run_string_add_sum (P := Try.prog) W a b (by omega)
  have hz : (a ++ b).size ≤ maxLen := by unfold maxLen; rw [ByteArray.size_append]; omega
  have hd := fun W => specDigest_c width 1 (a ++ b) W hz
  rw [digOk_node hw ha hb] at hd
  have HD := Lib.hid hd
  have hn : nodeT width a b = digM width 1 (a ++ b) := rfl
  rw [← hn] at HD
  have HQ := Lib.hid hw
  have hna : (a.size : Int) = width := ha
  clear hd hz hn hw
  subst hna
  generalize nodeT _ a b = nd at *
  go_enter Try.func123, Try.ntmps123
  go_wp2_with fail
  refine (l02Width_c _ _).mono ?_
  rintro e w1 ⟨rfl, rfl⟩
  rw [HQ.out]
  go_wp2_with fail
  refine (HD.out _).mono ?_
  rintro e w1 ⟨rfl, hb1⟩
  have HB1 := Lib.hid hb1
  clear hb1
  go_wp2
  refine bodyPost_ret (v := .tuple #[.string nd, .bool true]) (by simp [results, Try.results123, go_sem]) rfl ?_
  exact ⟨rfl, HB1.out⟩
set_option maxRecDepth 100000 in
set_option maxHeartbeats 400000 in
theorem implEmptyRoot_c (width : Int) (w : World) : Calls Try.prog 168 #[.int .i64 width] w fun e w' => e = .returned (.tuple #[.string (emptyT width), .bool (inR width 1 32)]) ∧ Below w.heap.size w w' := by
  have hd := fun W => implDigest_c width 5 ⟨#[]⟩ W (by unfold maxLen; exact Nat.zero_le _)
  have hn : digM width 5 ⟨#[]⟩ = emptyT width := rfl
  have hk : digOk width 5 ⟨#[]⟩ = inR width 1 32 := digOk_empty width
  rw [hn, hk] at hd
  have HD := Lib.hid hd
  clear hd hn hk
  generalize emptyT width = em at *
  generalize inR width 1 32 = q at *
  go_enter Try.func168, Try.ntmps168
  go_wp2_with fail
  refine (HD.out _).mono ?_
  rintro e w1 ⟨rfl, hb1⟩
  have HB1 := Lib.hid hb1
  clear hb1
  go_wp2
  refine bodyPost_ret (v := .tuple #[.string em, .bool q]) (by simp [results, Try.results168, go_sem]) rfl ?_
  exact ⟨rfl, HB1.out⟩
set_option maxRecDepth 100000 in
set_option maxHeartbeats 400000 in
theorem specEmptyRoot_c (width : Int) (w : World) : Calls Try.prog 106 #[.int .i64 width] w fun e w' => e = .returned (.tuple #[.string (emptyT width), .bool (inR width 1 32)]) ∧ Below w.heap.size w w' := by
  have hd := fun W => specDigest_c width 5 ⟨#[]⟩ W (by unfold maxLen; exact Nat.zero_le _)
  have hn : digM width 5 ⟨#[]⟩ = emptyT width := rfl
  have hk : digOk width 5 ⟨#[]⟩ = inR width 1 32 := digOk_empty width
  rw [hn, hk] at hd
  have HD := Lib.hid hd
  clear hd hn hk
  generalize emptyT width = em at *
  generalize inR width 1 32 = q at *
  go_enter Try.func106, Try.ntmps106
  go_wp2_with fail
  refine (HD.out _).mono ?_
  rintro e w1 ⟨rfl, hb1⟩
  have HB1 := Lib.hid hb1
  clear hb1
  go_wp2
  refine bodyPost_ret (v := .tuple #[.string em, .bool q]) (by simp [results, Try.results106, go_sem]) rfl ?_
  exact ⟨rfl, HB1.out⟩
set_option maxRecDepth 100000 in
set_option maxHeartbeats 400000 in
theorem emptyRoot_c (width : Int) (w : World) : Calls Try.prog 108 #[.int .i64 width] w fun e w' => e = .returned (.string (emptyT width)) ∧ Below w.heap.size w w' := by
  have HC := Lib.hid (fun W => implEmptyRoot_c width W)
  generalize emptyT width = em at *
  generalize inR width 1 32 = q at *
  go_enter Try.func108, Try.ntmps108
  go_wp2_with fail
  refine (HC.out _).mono ?_
  rintro e w1 ⟨rfl, hb1⟩
  have HB1 := Lib.hid hb1
  clear hb1
  go_wp2
  go_ret
  exact ⟨rfl, HB1.out⟩
set_option maxRecDepth 100000 in
set_option maxHeartbeats 400000 in
theorem implFrame_c (t : ByteArray) (w : World) (ht : t.size ≤ 1048576) : Calls Try.prog 27 #[.string t] w fun e w' => e = .returned (.tuple #[.string (frameM t), .bool (frameOk t)]) ∧ Below w.heap.size w w' := by
  have HR := Lib.hid (fun W => inRange_c (t.size : Nat) 1 1000 W)
  have HO : Hid (frameOk t = inR t.size 1 1000) := Lib.hid rfl
  rcases hq : inR (t.size : Nat) 1 1000 with _ | _
  · have hm : Hid (frameM t = ⟨#[]⟩) := by rw [Hid, frameM, frameOk, hq]; rfl
    rw [hq] at HO HR
    clear hq
    go_enter Try.func27, Try.ntmps27
    go_wp2_with fail
    refine (HR.out _).mono ?_
    rintro e w1 ⟨rfl, rfl⟩
    go_wp2
    refine bodyPost_ret (v := .tuple #[.string ⟨#[]⟩, .bool false]) (by simp [results, Try.results27, go_sem]) rfl ?_
    exact ⟨by rw [hm.out, HO.out], Below.refl _ _⟩
  · have hsz := inR_true.1 hq
    have hm : Hid (frameM t = pairB t.size ++ digM 4 4 t ++ t) := by rw [Hid, frameM, frameOk, hq]; rfl
    rw [hq] at HO HR
    have hd := fun W => implDigest_c 4 4 t W (by unfold maxLen; omega)
    have hp := fun W => pair_c t.size W (by omega) (by omega)
    try rw [numUp_2] at hp
    try have hp := fun W => hp W (by omega)
    have HD := Lib.hid hd
    have HP := Lib.hid hp
    have hz1 := digM_le 4 4 t
    have hz2 := pairB_size t.size
    clear hd hp hq
    generalize digM 4 4 t = dg at *
    generalize pairB t.size = pr at *
    have hs1 := fun W => run_string_add_sum (P := Try.prog) W pr dg (by omega)
    have hz3 : (pr ++ dg).size ≤ 40 := by rw [ByteArray.size_append]; omega
    obtain ⟨pd, hpd⟩ : ∃ x, x = pr ++ dg := ⟨_, rfl⟩
    rw [← hpd] at hs1 hz3
    have hs2 := fun W => run_string_add_sum (P := Try.prog) W pd t (by omega)
    have HPD := Lib.hid hpd
    clear hpd
    go_enter Try.func27, Try.ntmps27
    go_wp2_with fail
    refine (HR.out _).mono ?_
    rintro e w1 ⟨rfl, rfl⟩
    go_wp2_with fail
    refine (HD.out _).mono ?_
    rintro e w1 ⟨rfl, hb1⟩
    have HB1 := Lib.hid hb1
    clear hb1
    generalize digOk 4 4 t = q4 at *
    go_wp2_with fail
    refine (HP.out _).mono ?_
    rintro e w2 ⟨rfl, hb2⟩
    have HB2 := Lib.hid (below_then HB1.out hb2 HB1.out.size)
    clear hb2 HB1
    go_wp2
    refine bodyPost_ret (v := .tuple #[.string (pd ++ t), .bool true]) (by simp [results, Try.results27, go_sem]) rfl ?_
    exact ⟨by rw [hm.out, HO.out, HPD.out], HB2.out⟩
set_option maxRecDepth 100000 in
set_option maxHeartbeats 400000 in
theorem specFrame_c (t : ByteArray) (w : World) (ht : t.size ≤ 1048576) : Calls Try.prog 26 #[.string t] w fun e w' => e = .returned (.tuple #[.string (frameM t), .bool (frameOk t)]) ∧ Below w.heap.size w w' := by
  have HR := Lib.hid (fun W => l01In_c (t.size : Nat) 1 1000 W)
  have HO : Hid (frameOk t = inR t.size 1 1000) := Lib.hid rfl
  rcases hq : inR (t.size : Nat) 1 1000 with _ | _
  · have hm : Hid (frameM t = ⟨#[]⟩) := by rw [Hid, frameM, frameOk, hq]; rfl
    rw [hq] at HO HR
    clear hq
    go_enter Try.func26, Try.ntmps26
    go_wp2_with fail
    refine (HR.out _).mono ?_
    rintro e w1 ⟨rfl, rfl⟩
    go_wp2
    refine bodyPost_ret (v := .tuple #[.string ⟨#[]⟩, .bool false]) (by simp [results, Try.results26, go_sem]) rfl ?_
    exact ⟨by rw [hm.out, HO.out], Below.refl _ _⟩
  · have hsz := inR_true.1 hq
    have hm : Hid (frameM t = pairB t.size ++ digM 4 4 t ++ t) := by rw [Hid, frameM, frameOk, hq]; rfl
    rw [hq] at HO HR
    have hd := fun W => specDigest_c 4 4 t W (by unfold maxLen; omega)
    have hp := fun W => l03Number_c t.size 2 W (by omega) (by omega)
    try rw [numUp_2] at hp
    try have hp := fun W => hp W (by omega)
    have HD := Lib.hid hd
    have HP := Lib.hid hp
    have hz1 := digM_le 4 4 t
    have hz2 := pairB_size t.size
    clear hd hp hq
    generalize digM 4 4 t = dg at *
    generalize pairB t.size = pr at *
    have hs1 := fun W => run_string_add_sum (P := Try.prog) W pr dg (by omega)
    have hz3 : (pr ++ dg).size ≤ 40 := by rw [ByteArray.size_append]; omega
    obtain ⟨pd, hpd⟩ : ∃ x, x = pr ++ dg := ⟨_, rfl⟩
    rw [← hpd] at hs1 hz3
    have hs2 := fun W => run_string_add_sum (P := Try.prog) W pd t (by omega)
    have HPD := Lib.hid hpd
    clear hpd
    go_enter Try.func26, Try.ntmps26
    go_wp2_with fail
    refine (HR.out _).mono ?_
    rintro e w1 ⟨rfl, rfl⟩
    go_wp2_with fail
    refine (HD.out _).mono ?_
    rintro e w1 ⟨rfl, hb1⟩
    have HB1 := Lib.hid hb1
    clear hb1
    generalize digOk 4 4 t = q4 at *
    go_wp2_with fail
    refine (HP.out _).mono ?_
    rintro e w2 ⟨rfl, hb2⟩
    have HB2 := Lib.hid (below_then HB1.out hb2 HB1.out.size)
    clear hb2 HB1
    go_wp2
    refine bodyPost_ret (v := .tuple #[.string (pd ++ t), .bool true]) (by simp [results, Try.results26, go_sem]) rfl ?_
    exact ⟨by rw [hm.out, HO.out, HPD.out], HB2.out⟩
end Go.Proofs.Ytojjjhbiccgjkaa
