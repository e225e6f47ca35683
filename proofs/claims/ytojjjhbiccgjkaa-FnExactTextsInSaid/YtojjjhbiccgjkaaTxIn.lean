/- TextsIn of the program and of the reference. -/
import Derived.Test.YtojjjhbiccgjkaaFold
import Derived.Test.YtojjjhbiccgjkaaWays
import Derived.Test.YtojjjhbiccgjkaaGrw3
namespace Go.Proofs.Ytojjjhbiccgjkaa
set_option linter.unusedVariables false
set_option linter.unusedSimpArgs false
open Go.RowKit

def inOk (width z a : Int) (leaf : ByteArray) (pr : List ByteArray) : Bool := inR width 1 32 && decide ((leaf.size : Int) = width) && areH width pr && decide ((pr.length : Int) = stIn z a)
def inTx (width z a : Int) (leaf : ByteArray) (pr : List ByteArray) : List ByteArray := if inOk width z a leaf pr then (inW width leaf 513 z.toNat a.toNat pr).2 else []
def inRt (width z a : Int) (leaf : ByteArray) (pr : List ByteArray) : ByteArray := if inOk width z a leaf pr then (inW width leaf 513 z.toNat a.toNat pr).1 else ByteArray.empty
theorem stIn_nn {z a : Int} {k : Nat} (h : (k : Int) = stIn z a) : 0 ≤ a ∧ a < z ∧ z ≤ 512 ∧ k = inSt 513 z.toNat a.toNat := by
  rw [stIn] at h
  split at h
  · rename_i h1; exact ⟨h1.1, h1.2.1, h1.2.2, by omega⟩
  · omega
theorem inTx_len {width z a : Int} {leaf : ByteArray} {pr : List ByteArray} : (inTx width z a leaf pr).length ≤ 512 := by
  rw [inTx]
  split
  · rename_i h
    rw [inOk, Bool.and_eq_true, Bool.and_eq_true, Bool.and_eq_true] at h
    obtain ⟨⟨⟨h1, h2⟩, h3⟩, h4⟩ := h
    obtain ⟨h5, h6, h7, h8⟩ := stIn_nn (of_decide_eq_true h4)
    rw [(inW_size h1 (of_decide_eq_true h2) (by omega) (by omega) h3 h8).2]
    exact Nat.le_trans (inSt_le (by omega)) (by omega)
  · exact Nat.zero_le _

set_option maxRecDepth 100000 in
set_option maxHeartbeats 4000000 in
theorem rootBy_c (width z a : Int) (leaf : ByteArray) (P : Option Addr) (cp lo hi k : Nat) (pr : List ByteArray) (w : World) (hP : Rd w lo hi P (strs pr)) (hk : pr.length = k) (hkl : k ≤ 1048576) (hkc : k ≤ cp) :
    Calls Try.prog 131 #[.int .i64 width, .int .i64 z, .int .i64 a, .string leaf, .slice P k cp] w fun e w' => ∃ A' c', e = .returned (.tuple #[.string (inRt width z a leaf pr), .slice A' (inTx width z a leaf pr).length c', .bool (inOk width z a leaf pr)]) ∧
      (w'.ownsRow w.heap.size 9 1 (.slice A' (inTx width z a leaf pr).length c') (inTx width z a leaf pr).length (strs (inTx width z a leaf pr))) ∧ Below w.heap.size w w' := by
  have HDEF : Hid (inOk width z a leaf pr = (inR width 1 32 && decide ((leaf.size : Int) = width) && areH width pr && decide ((k : Int) = stIn z a))) := Lib.hid (by rw [inOk, hk])
  have HBAD : Hid (inOk width z a leaf pr = false → inTx width z a leaf pr = [] ∧ inRt width z a leaf pr = ByteArray.empty) := Lib.hid (fun h => by rw [inTx, inRt, h]; exact ⟨rfl, rfl⟩)
  have HGOOD : Hid (inOk width z a leaf pr = true → inTx width z a leaf pr = (inW width leaf 513 z.toNat a.toNat pr).2 ∧ inRt width z a leaf pr = (inW width leaf 513 z.toNat a.toNat pr).1) := Lib.hid (fun h => by rw [inTx, inRt, h]; exact ⟨rfl, rfl⟩)
  have HAR := Lib.hid (fun W (h : Rd W 0 W.heap.size P (strs pr)) => areHashes_c width P cp 0 W.heap.size k pr W h hk hkl)
  have HST := Lib.hid (fun W => implStepsIn_c z a W)
  have HR := Lib.hid hP.base
  have HK := Lib.hid hk
  have HSTN := Lib.hid (fun h => stIn_nn (z := z) (a := a) (k := k) h)
  clear hP hk
  generalize inOk width z a leaf pr = ok at *
  generalize inTx width z a leaf pr = tx at *
  generalize inRt width z a leaf pr = rt at *
  generalize stIn z a = T at *
  go_enter Try.func131, Try.ntmps131
  go_wp2_with fail
  refine (isWidth_c width _).mono ?_
  rintro e w1 ⟨rfl, rfl⟩
  rcases hq1 : inR width 1 32 with _ | _
  · obtain ⟨rfl, rfl⟩ := HBAD.out (by rw [HDEF.out, hq1]; rfl)
    have hz0 : ok = false := by rw [HDEF.out, hq1]; rfl
    subst hz0
    go_wp2
    refine bodyPost_ret (v := .tuple #[.string ⟨#[]⟩, .slice none 0 0, .bool false]) (by simp [results, Try.results131, go_sem]) rfl ?_
    exact ⟨none, 0, rfl, World.ownsRow_nil _ _ _ _, Below.refl _ _⟩
  have HQ1 := Lib.hid hq1
  rw [hq1] at HDEF
  clear hq1
  by_cases hq2 : (leaf.size : Int) = width
  case neg =>
    have hz0 : ok = false := by rw [HDEF.out, decide_eq_false hq2]; rfl
    obtain ⟨rfl, rfl⟩ := HBAD.out hz0
    subst hz0
    go_wp2
    refine bodyPost_ret (v := .tuple #[.string ⟨#[]⟩, .slice none 0 0, .bool false]) (by simp [results, Try.results131, go_sem]) rfl ?_
    exact ⟨none, 0, rfl, World.ownsRow_nil _ _ _ _, Below.refl _ _⟩
  rw [decide_eq_true hq2] at HDEF
  go_wp2_with fail
  refine (HAR.out _ HR.out).mono ?_
  rintro e w1 ⟨rfl, rfl⟩
  rcases hq3 : areH width pr with _ | _
  · have hz0 : ok = false := by rw [HDEF.out, hq3]; rfl
    obtain ⟨rfl, rfl⟩ := HBAD.out hz0
    subst hz0
    clear hq2
    go_wp2
    refine bodyPost_ret (v := .tuple #[.string ⟨#[]⟩, .slice none 0 0, .bool false]) (by simp [results, Try.results131, go_sem]) rfl ?_
    exact ⟨none, 0, rfl, World.ownsRow_nil _ _ _ _, Below.refl _ _⟩
  have HQ3 := Lib.hid hq3
  rw [hq3] at HDEF
  clear hq3
  go_wp2_with fail
  refine (HST.out _).mono ?_
  rintro e w1 ⟨rfl, rfl⟩
  by_cases hq4 : (k : Int) = T
  case neg =>
    have hz0 : ok = false := by rw [HDEF.out, decide_eq_false hq4]; rfl
    obtain ⟨rfl, rfl⟩ := HBAD.out hz0
    subst hz0
    clear hq2
    go_wp2
    refine bodyPost_ret (v := .tuple #[.string ⟨#[]⟩, .slice none 0 0, .bool false]) (by simp [results, Try.results131, go_sem]) rfl ?_
    exact ⟨none, 0, rfl, World.ownsRow_nil _ _ _ _, Below.refl _ _⟩
  have hok : ok = true := by rw [HDEF.out, decide_eq_true hq4]; rfl
  obtain ⟨h1, h2, h3, h4⟩ := HSTN.out hq4
  obtain ⟨g1, g2⟩ := HGOOD.out hok
  obtain ⟨n, rfl⟩ : ∃ n : Nat, z = n := ⟨z.toNat, by omega⟩
  obtain ⟨b, rfl⟩ : ∃ b : Nat, a = b := ⟨a.toNat, by omega⟩
  rw [Int.toNat_natCast, Int.toNat_natCast] at g1 g2 h4
  have hk5 : k ≤ 512 := by rw [h4]; exact Nat.le_trans (inSt_le (by omega)) (by omega)
  have hsz := (inW_size HQ1.out hq2 (f := 513) (n := n) (a := b) (pr := pr) (by omega) (by omega) HQ3.out (HK.out.trans h4)).2
  rw [← h4, ← g1] at hsz
  have HFR := Lib.hid (fun W base p (e1 : w.heap.size ≤ p) (e2 : w.heap.size ≤ base) e3 e4 e5 => froot_c width leaf p base w.heap.size HQ1.out hq2 e1 e2 513 n b k cp 0 0 P none pr [] W (by omega) (by omega) (by omega) HK.out h4 hkc HQ3.out (by omega) e3 e4 e5)
  rw [← g1, ← g2, List.nil_append, Nat.zero_add] at HFR
  subst hok
  have HSZ := Lib.hid hsz
  have HR0 := Lib.hid HR.out
  subst hq4
  clear hq2 h1 h2 h3 h4 g1 g2 hsz HGOOD HBAD HSTN HST HAR HDEF HR
  go_wp2_with fail
  refine calls_named (fun w10 hw => ?_)
  have hR10 : RngAt w10 w.heap.size w.heap.size 0 width (.slice none 0 0) 0 [] := by rw [hw]; exact rng_new _ (by decide) (World.ownsRow_nil _ _ _ _)
  have hb10 : Below w.heap.size w w10 := by rw [hw]; exact (Below.refl _ _).alloc (Nat.le_refl _) _
  have hz10 : w.heap.size < w10.heap.size := hR10.typed.lt
  clear hw
  have HR10 := Lib.hid hR10
  have HB10 := Lib.hid hb10
  clear hR10 hb10
  refine (HFR.out _ _ _ (Nat.le_refl _) (Nat.le_refl _) (by omega) (HR0.out.lowB HB10.out (Nat.le_refl _)) HR10.out).mono ?_
  rintro e w11 ⟨A11, c11, rfl, hR11, hG11⟩
  have hb11 : Below w.heap.size w w11 := HB10.out.trans (hG11.toBelow HR10.out.row (Nat.le_refl _) (Nat.le_refl _) (by omega))
  have hc1 := hR11.c1
  have hf1 := hR11.typed.frozen
  have HR11 := Lib.hid hR11.row
  have HB11 := Lib.hid hb11
  have hs11 : w.heap.size < w11.heap.size := hR11.typed.lt
  clear hR11 hb11 hG11 HFR HR10 HB10 HR0
  go_wp2_with fail
  go_quiet (fail)
  go_wp2
  refine bodyPost_ret (v := .tuple #[.string rt, .slice A11 k c11, .bool true]) (by simp [results, Try.results131, go_sem]) rfl ?_
  have hkk := HSZ.out
  exact ⟨A11, c11, by rw [hkk], by rw [hkk]; exact row_below HR11.out (below_drewN _ _), HB11.out.trans ((below_drewN _ _).mono (by omega))⟩
set_option maxRecDepth 100000 in
set_option maxHeartbeats 4000000 in
theorem implTextsIn_c (width z a : Int) (leaf : ByteArray) (P : Option Addr) (cp lo hi k : Nat) (pr : List ByteArray) (w : World) (hP : Rd w lo hi P (strs pr)) (hk : pr.length = k) (hkl : k ≤ 1048576) (hkc : k ≤ cp) :
    Calls Try.prog 73 #[.int .i64 width, .int .i64 z, .int .i64 a, .string leaf, .slice P k cp] w fun e w' => ∃ A' c', e = .returned (.tuple #[.slice A' (inTx width z a leaf pr).length c', .bool (inOk width z a leaf pr)]) ∧
      Own w' w.heap.size w'.heap.size A' (strs (inTx width z a leaf pr)) ∧ Below w.heap.size w w' := by
  have HC := Lib.hid (rootBy_c width z a leaf P cp lo hi k pr w hP hk hkl hkc)
  clear hP hk
  generalize inOk width z a leaf pr = ok at *
  generalize inTx width z a leaf pr = tx at *
  generalize inRt width z a leaf pr = rt at *
  go_enter Try.func73, Try.ntmps73
  go_wp2_with fail
  refine HC.out.mono ?_
  rintro e w1 ⟨A1, c1, rfl, ho, hb⟩
  have HO := Lib.hid (Own.of_ownsRow ho)
  have HB := Lib.hid hb
  clear ho hb HC
  go_wp2
  refine bodyPost_ret (v := .tuple #[.slice A1 tx.length c1, .bool ok]) (by simp [results, Try.results73, go_sem]) rfl ?_
  exact ⟨A1, c1, rfl, HO.out, HB.out⟩
set_option maxRecDepth 100000 in
set_option maxHeartbeats 4000000 in
theorem l06InOk_c (width z a : Int) (leaf : ByteArray) (P : Option Addr) (cp lo hi k : Nat) (pr : List ByteArray) (w : World) (hP : Rd w lo hi P (strs pr)) (hk : pr.length = k) (hkl : k ≤ 1048576) :
    Calls Try.prog 129 #[.int .i64 width, .int .i64 z, .int .i64 a, .string leaf, .slice P k cp] w fun e w' => e = .returned (.bool (inOk width z a leaf pr)) ∧ w = w' := by
  have HDEF : Hid (inOk width z a leaf pr = (inR width 1 32 && decide ((leaf.size : Int) = width) && areH width pr && decide ((k : Int) = stIn z a))) := Lib.hid (by rw [inOk, hk])
  have HAR := Lib.hid (fun W (h : Rd W 0 W.heap.size P (strs pr)) => l04Hashes_c width P cp 0 W.heap.size k pr W h hk hkl)
  have HST := Lib.hid (fun W => specStepsIn_c z a W)
  have HR := Lib.hid hP.base
  clear hP hk
  generalize inOk width z a leaf pr = ok at *
  generalize stIn z a = T at *
  go_enter Try.func129, Try.ntmps129
  go_wp2_with fail
  refine (l02Width_c width _).mono ?_
  rintro e w1 ⟨rfl, rfl⟩
  rcases hq1 : inR width 1 32 with _ | _
  · rw [hq1] at HDEF
    go_wp2
    go_ret
    exact ⟨ret_bool (by rw [HDEF.out]; rfl), rfl⟩
  rw [hq1] at HDEF HAR
  by_cases hq2 : (leaf.size : Int) = width
  case neg =>
    rw [decide_eq_false hq2] at HDEF
    go_wp2
    go_ret
    exact ⟨ret_bool (by rw [HDEF.out]; rfl), rfl⟩
  rw [decide_eq_true hq2] at HDEF
  go_wp2_with fail
  refine (HAR.out _ HR.out).mono ?_
  rintro e w1 ⟨rfl, rfl⟩
  rw [Bool.and_true]
  rcases hq3 : areH width pr with _ | _
  · rw [hq3] at HDEF
    go_wp2
    go_ret
    exact ⟨ret_bool (by rw [HDEF.out]; rfl), rfl⟩
  rw [hq3] at HDEF
  go_wp2_with fail
  refine (HST.out _).mono ?_
  rintro e w1 ⟨rfl, rfl⟩
  by_cases hq4 : (k : Int) = T
  · subst hq4
    rw [decide_eq_true rfl] at HDEF
    go_wp2
    go_ret
    exact ⟨ret_bool (by rw [HDEF.out]; rfl), rfl⟩
  · have hq5 : (T == (k : Int)) = false := beq_eq_false_iff_ne.2 (fun h => hq4 h.symm)
    rw [decide_eq_false hq4] at HDEF
    go_wp2
    go_ret
    exact ⟨ret_bool (by rw [HDEF.out]; rfl), rfl⟩
set_option maxRecDepth 100000 in
set_option maxHeartbeats 4000000 in
theorem specTextsIn_c (width z a : Int) (leaf : ByteArray) (P : Option Addr) (cp lo hi k : Nat) (pr : List ByteArray) (w : World) (hP : Rd w lo hi P (strs pr)) (hk : pr.length = k) (hkl : k ≤ 1048576) (hkc : k ≤ cp) :
    Calls Try.prog 72 #[.int .i64 width, .int .i64 z, .int .i64 a, .string leaf, .slice P k cp] w fun e w' => ∃ A' c', e = .returned (.tuple #[.slice A' (inTx width z a leaf pr).length c', .bool (inOk width z a leaf pr)]) ∧
      Own w' w.heap.size w'.heap.size A' (strs (inTx width z a leaf pr)) ∧ Below w.heap.size w w' := by
  have HOK := Lib.hid (l06InOk_c width z a leaf P cp lo hi k pr w hP hk hkl)
  rcases hok : inOk width z a leaf pr with _ | _
  · have HTX : Hid (inTx width z a leaf pr = []) := Lib.hid (by rw [inTx, hok]; rfl)
    rw [hok] at HOK
    rw [HTX.out]
    clear hP hk hok
    go_enter Try.func72, Try.ntmps72
    go_wp2_with fail
    refine HOK.out.mono ?_
    rintro e w1 ⟨rfl, rfl⟩
    go_wp2
    refine bodyPost_named (fun w2 hw => ?_)
    have HB : Hid (Below w.heap.size w w2) := by rw [Hid, hw]; exact (Below.refl _ _).alloc (Nat.le_refl _) _
    clear hw
    refine bodyPost_ret (v := .tuple #[.slice (some ⟨w.heap.size, 0, none⟩) 0 0, .bool false]) (by simp [results, Try.results72, go_sem]) rfl ?_
    exact ⟨_, _, rfl, Own.nil, HB.out⟩
  · have hk2 := hok
    rw [inOk, Bool.and_eq_true, Bool.and_eq_true, Bool.and_eq_true] at hk2
    obtain ⟨⟨⟨q1, q2⟩, q3⟩, q4⟩ := hk2
    obtain ⟨h1, h2, h3, h4⟩ := stIn_nn (of_decide_eq_true q4)
    have HTX : Hid (inTx width z a leaf pr = (inW width leaf 513 z.toNat a.toNat pr).2) := Lib.hid (by rw [inTx, hok]; rfl)
    rw [HTX.out]
    rw [hok] at HOK
    obtain ⟨n, rfl⟩ : ∃ n : Nat, z = n := ⟨z.toNat, by omega⟩
    obtain ⟨b, rfl⟩ : ∃ b : Nat, a = b := ⟨a.toNat, by omega⟩
    rw [Int.toNat_natCast, Int.toNat_natCast] at h4
    rw [Int.toNat_natCast, Int.toNat_natCast]
    rw [hk] at h4
    have hk5 : k ≤ 512 := by rw [h4]; exact Nat.le_trans (inSt_le (by omega)) (by omega)
    have hsz := (inW_size q1 (of_decide_eq_true q2) (f := 513) (n := n) (a := b) (pr := pr) (by omega) (by omega) q3 (hk.trans h4)).2
    rw [← h4] at hsz
    have HI := Lib.hid (fun W (h : Rd W 0 W.heap.size P (strs pr)) => l06In_c width leaf q1 (of_decide_eq_true q2) 513 n b k cp 0 W.heap.size P pr W (by omega) (by omega) (by omega) hk h4 hkc q3 h)
    have HP := Lib.hid hP.base
    clear HTX hok q1 q2 q3 q4 h1 h2 h3 h4 hP hk
    generalize (inW width leaf 513 n b pr).1 = r at *
    generalize (inW width leaf 513 n b pr).2 = t at *
    rw [hsz]
    have HSZ := Lib.hid hsz
    clear hsz
    have HB : Hid (Below w.heap.size w w) := Below.refl _ _
    go_enter Try.func72, Try.ntmps72
    go_wp2_with fail
    refine HOK.out.mono ?_
    rintro e w1 ⟨rfl, rfl⟩
    go_wp2_with fail
    refine calls_named (fun w1 hw => ?_)
    have hz1 : w.heap.size + 0 ≤ w1.heap.size := by rw [hw]; first | omega | (simp [World.setCell]; done) | (simp [World.setCell]; omega)
    replace HB : Hid (Below w.heap.size w w1) := by rw [Hid, hw]; exact (by ((repeat (first | ((with_reducible refine Below.alloc ?_ ?_ _); rotate_left 1; (focus (first | omega | (simp; done) | (simp; omega)))) | (with_reducible refine Below.drew ?_) | ((with_reducible refine Below.setCell ?_ ?_ _); rotate_left 1; (focus (first | omega | (simp; done) | (simp; omega)))))); exact HB.out))
    clear hw
    refine (HI.out _ (HP.out.below HB.out).base).mono ?_
    rintro e w2 ⟨A2, c2, rfl, hown, hb⟩
    have hzw2 : w1.heap.size ≤ w2.heap.size := hb.size
    have hzzw2 : w.heap.size ≤ w2.heap.size := by omega
    replace HB : Hid (Below w.heap.size w w2) := below_then HB.out hb HB.out.size
    clear hb
    have hA2 : A2 = none → c2 = 0 := by obtain ⟨_, _, e, _, h2, _⟩ := ownsRow_slice hown; cases e; exact h2
    have HOT : Hid (Own w2 (w1.heap.size) (w2.heap.size) (A2) (strs t)) := Own.of_ownsRow hown
    clear hown HI
    go_wp2_with (at_builtin; refine stop_here ?_)
    intro _
    refine wpList_named (fun w3 hw => ?_)
    have hz3 : w2.heap.size + 2 ≤ w3.heap.size := by rw [hw]; first | omega | (simp [World.setCell]; done) | (simp [World.setCell]; omega)
    have hzz3 : w.heap.size ≤ w3.heap.size := by omega
    replace HB : Hid (Below w.heap.size w w3) := by rw [Hid, hw]; exact (by ((repeat (first | ((with_reducible refine Below.alloc ?_ ?_ _); rotate_left 1; (focus (first | omega | (simp; done) | (simp; omega)))) | (with_reducible refine Below.drew ?_) | ((with_reducible refine Below.setCell ?_ ?_ _); rotate_left 1; (focus (first | omega | (simp; done) | (simp; omega)))))); exact HB.out))
    replace HOT : Hid (Own w3 (w1.heap.size) (w2.heap.size) (A2) (strs t)) := by rw [Hid, hw]; (repeat (first | (with_reducible refine Own.alloc ?_ _) | (with_reducible refine Own.drew ?_) | ((with_reducible refine Own.setCell ?_ ?_ _); rotate_left 1; (focus (first | omega | (simp; done) | (simp; omega)))))); exact HOT.out
    have HXv : Hid (NewBox w3 (w2.heap.size) [.string ByteArray.empty, .string r, .slice A2 k c2]) := by rw [Hid, hw]; exact ⟨by first | omega | (simp [World.setCell]; done) | (simp [World.setCell]; omega), fun o => by rcases o with _ | _ | _ | o <;> go_simp, fun o => by go_simp⟩
    have hxv := HXv.out.2.1
    have hfv := HXv.out.2.2
    have hkv := HXv.out.1
    have HXz : Hid (NewBox w3 (w2.heap.size + 1) []) := by rw [Hid, hw]; exact ⟨by first | omega | (simp [World.setCell]; done) | (simp [World.setCell]; omega), fun o => by rcases o with o <;> go_simp, fun o => by go_simp⟩
    have hxz := HXz.out.2.1
    have hfz := HXz.out.2.2
    have hkz := HXz.out.1
    have HROW : Hid ((w3).ownsRow (w2.heap.size + 1) 9 1 (.slice (some ⟨w2.heap.size + 1, 0, none⟩) 0 0) 0 []) := by rw [Hid, hw]; simpa using row_made (w2.alloc _) 9 0
    clear hw
    refine appStr rfl _ _ rfl (w2.heap.size + 1) _ 0 [] rfl HROW.out A2 k c2 0 (w3).heap.size t rfl HSZ.out (HOT.out.rd.base) hA2 (by omega) (by omega) ?_
    intro v9 w9 hown9 hg9
    have hb9 : Below w.heap.size w w9 := below_only HB.out (grown_only HROW.out hg9) (by omega) HB.out.size
    rw [List.nil_append, Nat.zero_add] at hown9
    obtain ⟨A9, c9, rfl, _, _, _⟩ := ownsRow_slice hown9
    have HB9 := Lib.hid hb9
    have HO9 := Lib.hid (Own.of_ownsRow hown9)
    clear hb9 hown9 hg9 HROW HOT HB
    go_wp2
    refine bodyPost_ret (v := .tuple #[.slice A9 k c9, .bool true]) (by simp [results, Try.results72, go_sem]) rfl ?_
    exact ⟨A9, c9, rfl, HO9.out.mono (by omega) (Nat.le_refl _) (Nat.le_refl _), HB9.out⟩
end Go.Proofs.Ytojjjhbiccgjkaa
