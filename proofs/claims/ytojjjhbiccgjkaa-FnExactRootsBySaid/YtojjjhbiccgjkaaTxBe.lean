/- RootsBy, TextsBetween and CheckBetween of the program and of the reference. -/
import Derived.Test.YtojjjhbiccgjkaaFolds
import Derived.Test.YtojjjhbiccgjkaaWayb
import Derived.Test.YtojjjhbiccgjkaaGrw3
namespace Go.Proofs.Ytojjjhbiccgjkaa
set_option linter.unusedVariables false
set_option linter.unusedSimpArgs false
open Go.RowKit

def beOk (width s : Int) (root : ByteArray) (n : Int) (pr : List ByteArray) : Bool := inR width 1 32 && decide ((root.size : Int) = width) && areH width pr && decide (1 ≤ s) && decide ((pr.length : Int) = stBe s n)
def beAll (width s : Int) (root : ByteArray) (n : Int) (pr : List ByteArray) : Way := if beOk width s root n pr then beW width root 513 s.toNat n.toNat pr true else ⟨ByteArray.empty, ByteArray.empty, []⟩
theorem stBe_nn {s n : Int} {k : Nat} (hs : 1 ≤ s) (h : (k : Int) = stBe s n) : s ≤ n ∧ n ≤ 512 ∧ k = beSt 513 s.toNat n.toNat true := by
  rw [stBe] at h
  split at h
  · rename_i h1
    rw [if_neg (by omega)] at h
    exact ⟨h1.2.1, h1.2.2, by omega⟩
  · omega
theorem beAll_len {width s : Int} {root : ByteArray} {n : Int} {pr : List ByteArray} : (beAll width s root n pr).t.length ≤ 1024 := by
  rw [beAll]
  split
  · rename_i h
    rw [beOk, Bool.and_eq_true, Bool.and_eq_true, Bool.and_eq_true, Bool.and_eq_true] at h
    obtain ⟨⟨⟨⟨h1, h2⟩, h3⟩, h5⟩, h4⟩ := h
    have h6 := of_decide_eq_true h5
    obtain ⟨h7, h8, h9⟩ := stBe_nn h6 (of_decide_eq_true h4)
    have h10 := (beW_size h1 (of_decide_eq_true h2) (f := 513) (s := s.toNat) (n := n.toNat) (pr := pr) (wh := true) (by omega) (by omega) (by omega) h3 h9).2.2
    have h11 := beSt_le (f := 513) (s := s.toNat) (n := n.toNat) (wh := true) (by omega) (by omega) (by omega)
    omega
  · exact Nat.zero_le _

set_option maxRecDepth 100000 in
set_option maxHeartbeats 400000 in
theorem rootsBy_c (width s : Int) (root : ByteArray) (n : Int) (P : Option Addr) (cp lo hi k : Nat) (pr : List ByteArray) (w : World) (hP : Rd w lo hi P (strs pr)) (hk : pr.length = k) (hkl : k ≤ 1048576) (hkc : k ≤ cp) :
    Calls Try.prog 128 #[.int .i64 width, .int .i64 s, .string root, .int .i64 n, .slice P k cp] w fun e w' => ∃ A' c', e = .returned (.tuple #[.string (beAll width s root n pr).s, .string (beAll width s root n pr).b, .slice A' (beAll width s root n pr).t.length c', .bool (beOk width s root n pr)]) ∧
      w'.ownsRow w.heap.size 9 1 (.slice A' (beAll width s root n pr).t.length c') (beAll width s root n pr).t.length (strs (beAll width s root n pr).t) ∧ Below w.heap.size w w' := by
  have HDEF : Hid (beOk width s root n pr = (inR width 1 32 && decide ((root.size : Int) = width) && areH width pr && decide (1 ≤ s) && decide ((k : Int) = stBe s n))) := Lib.hid (by rw [beOk, hk])
  have HBAD : Hid (beOk width s root n pr = false → beAll width s root n pr = ⟨ByteArray.empty, ByteArray.empty, []⟩) := Lib.hid (fun h => by rw [beAll, h]; rfl)
  have HGOOD : Hid (beOk width s root n pr = true → beAll width s root n pr = beW width root 513 s.toNat n.toNat pr true) := Lib.hid (fun h => by rw [beAll, h]; rfl)
  have HAR := Lib.hid (fun W (h : Rd W 0 W.heap.size P (strs pr)) => areHashes_c width P cp 0 W.heap.size k pr W h hk hkl)
  have HST := Lib.hid (fun W => implStepsBetween_c s n W)
  have HR := Lib.hid hP.base
  have HK := Lib.hid hk
  have HSTN := Lib.hid (fun h0 h => stBe_nn (s := s) (n := n) (k := k) h0 h)
  clear hP hk
  generalize beOk width s root n pr = ok at *
  generalize beAll width s root n pr = wy at *
  generalize stBe s n = T at *
  go_enter Try.func128, Try.ntmps128
  go_wp2_with fail
  refine (isWidth_c width _).mono ?_
  rintro e w1 ⟨rfl, rfl⟩
  rcases hq1 : inR width 1 32 with _ | _
  case false =>
    have hz0 : ok = false := by rw [HDEF.out, hq1]; rfl
    obtain rfl := HBAD.out hz0
    subst hz0
    go_wp2
    refine bodyPost_ret (v := .tuple #[.string ⟨#[]⟩, .string ⟨#[]⟩, .slice none 0 0, .bool false]) (by simp [results, Try.results128, go_sem]) rfl ?_
    exact ⟨none, 0, rfl, World.ownsRow_nil _ _ _ _, Below.refl _ _⟩
  have HQ1 := Lib.hid hq1
  rw [hq1] at HDEF
  clear hq1
  by_cases hq2 : (root.size : Int) = width
  case neg =>
    have hz0 : ok = false := by rw [HDEF.out, decide_eq_false hq2]; rfl
    obtain rfl := HBAD.out hz0
    subst hz0
    go_wp2
    refine bodyPost_ret (v := .tuple #[.string ⟨#[]⟩, .string ⟨#[]⟩, .slice none 0 0, .bool false]) (by simp [results, Try.results128, go_sem]) rfl ?_
    exact ⟨none, 0, rfl, World.ownsRow_nil _ _ _ _, Below.refl _ _⟩
  rw [decide_eq_true hq2] at HDEF
  go_wp2_with fail
  refine (HAR.out _ HR.out).mono ?_
  rintro e w1 ⟨rfl, rfl⟩
  rcases hq3 : areH width pr with _ | _
  case false =>
    have hz0 : ok = false := by rw [HDEF.out, hq3]; rfl
    obtain rfl := HBAD.out hz0
    subst hz0
    clear hq2
    go_wp2
    refine bodyPost_ret (v := .tuple #[.string ⟨#[]⟩, .string ⟨#[]⟩, .slice none 0 0, .bool false]) (by simp [results, Try.results128, go_sem]) rfl ?_
    exact ⟨none, 0, rfl, World.ownsRow_nil _ _ _ _, Below.refl _ _⟩
  have HQ3 := Lib.hid hq3
  rw [hq3] at HDEF
  clear hq3
  have HQ2 := Lib.hid hq2
  clear hq2
  by_cases hq5 : 1 ≤ s
  case neg =>
    have hz0 : ok = false := by rw [HDEF.out, decide_eq_false hq5]; rfl
    obtain rfl := HBAD.out hz0
    subst hz0
    go_wp2
    refine bodyPost_ret (v := .tuple #[.string ⟨#[]⟩, .string ⟨#[]⟩, .slice none 0 0, .bool false]) (by simp [results, Try.results128, go_sem]) rfl ?_
    exact ⟨none, 0, rfl, World.ownsRow_nil _ _ _ _, Below.refl _ _⟩
  rw [decide_eq_true hq5] at HDEF
  go_wp2_with fail
  refine (HST.out _).mono ?_
  rintro e w1 ⟨rfl, rfl⟩
  by_cases hq4 : (k : Int) = T
  case neg =>
    have hz0 : ok = false := by rw [HDEF.out, decide_eq_false hq4]; rfl
    obtain rfl := HBAD.out hz0
    subst hz0
    have hq6 : ((k : Int) == T) = false := beq_eq_false_iff_ne.2 hq4
    have hq7 : decide (s < 1) = false := decide_eq_false (by omega)
    clear hq4 HAR HR HK HST HSTN HQ1 HQ3 HQ2 HDEF HBAD HGOOD
    go_wp2
    refine bodyPost_ret (v := .tuple #[.string ⟨#[]⟩, .string ⟨#[]⟩, .slice none 0 0, .bool false]) (by simp [results, Try.results128, go_sem]) rfl ?_
    exact ⟨none, 0, rfl, World.ownsRow_nil _ _ _ _, Below.refl _ _⟩
  have hok : ok = true := by rw [HDEF.out, decide_eq_true hq4]; rfl
  obtain ⟨h2, h3, h4⟩ := HSTN.out hq5 hq4
  have g1 := HGOOD.out hok
  obtain ⟨z, rfl⟩ : ∃ z : Nat, n = z := ⟨n.toNat, by omega⟩
  obtain ⟨a, rfl⟩ : ∃ a : Nat, s = a := ⟨s.toNat, by omega⟩
  rw [Int.toNat_natCast, Int.toNat_natCast] at g1 h4
  have hk5 : k ≤ 512 := by rw [h4]; exact Nat.le_trans (beSt_le (by omega) (by omega) (by omega)) (by omega)
  have HFR := Lib.hid (fun W base p (e1 : w.heap.size ≤ p) (e2 : w.heap.size ≤ base) e3 e4 e5 => froots_c width root p base w.heap.size HQ1.out HQ2.out e1 e2 513 a z k cp 0 0 P none pr [] true W (by omega) (by omega) (by omega) (by omega) HK.out h4 hkc HQ3.out (by omega) e3 e4 e5)
  rw [← g1, List.nil_append, Nat.zero_add] at HFR
  subst hok
  have HR0 := Lib.hid HR.out
  have HE : Hid ((k : Int) = T) := Lib.hid hq4
  subst hq4
  clear HQ2 h2 h3 h4 g1 HGOOD HBAD HSTN HST HAR HDEF HR HE
  go_wp2_with fail
  refine calls_named (fun w10 hw => ?_)
  have hR10 : RngAt w10 w.heap.size w.heap.size 0 width (.slice none 0 0) 0 [] := by rw [hw]; exact rng_new _ (by decide) (World.ownsRow_nil _ _ _ _)
  have hb10 : Below w.heap.size w w10 := by rw [hw]; exact (Below.refl _ _).alloc (Nat.le_refl _) _
  have hz10 : w.heap.size < w10.heap.size := hR10.typed.lt
  clear hw
  have HR10 := Lib.hid hR10
  have HB10 := Lib.hid hb10
  clear hR10 hb10
  refine (HFR.out _ _ _ (Nat.le_refl _) (Nat.le_refl _) (by omega) (HR0.out.lowB HB10.out (Nat.le_refl _)) HR10.out).mono ?_
  rintro e w11 ⟨A11, c11, rfl, hR11, hG11⟩
  have hb11 : Below w.heap.size w w11 := HB10.out.trans (hG11.toBelow HR10.out.row (Nat.le_refl _) (Nat.le_refl _) (by omega))
  have hc1 := hR11.c1
  have hf1 := hR11.typed.frozen
  have HR11 := Lib.hid hR11.row
  have HB11 := Lib.hid hb11
  have hs11 : w.heap.size < w11.heap.size := hR11.typed.lt
  clear hR11 hb11 hG11 HFR HR10 HB10 HR0
  go_wp2_with fail
  go_quiet (fail)
  go_wp2
  refine bodyPost_ret (v := .tuple #[.string wy.s, .string wy.b, .slice A11 wy.t.length c11, .bool true]) (by simp [results, Try.results128, go_sem]) rfl ?_
  exact ⟨A11, c11, rfl, row_below HR11.out (below_drewN _ _), HB11.out.trans ((below_drewN _ _).mono (by omega))⟩
set_option maxRecDepth 100000 in
set_option maxHeartbeats 4000000 in
theorem implRootsBy_c (width s : Int) (root : ByteArray) (n : Int) (P : Option Addr) (cp lo hi k : Nat) (pr : List ByteArray) (w : World) (hP : Rd w lo hi P (strs pr)) (hk : pr.length = k) (hkl : k ≤ 1048576) (hkc : k ≤ cp) :
    Calls Try.prog 71 #[.int .i64 width, .int .i64 s, .string root, .int .i64 n, .slice P k cp] w fun e w' => e = .returned (.tuple #[.string (beAll width s root n pr).s, .string (beAll width s root n pr).b, .bool (beOk width s root n pr)]) ∧ Below w.heap.size w w' := by
  have HC := Lib.hid (rootsBy_c width s root n P cp lo hi k pr w hP hk hkl hkc)
  clear hP hk
  generalize beOk width s root n pr = ok at *
  generalize beAll width s root n pr = wy at *
  go_enter Try.func71, Try.ntmps71
  go_wp2_with fail
  refine HC.out.mono ?_
  rintro e w1 ⟨A1, c1, rfl, ho, hb⟩
  have HO := Lib.hid (Own.of_ownsRow ho)
  have HB := Lib.hid hb
  clear ho hb HC
  go_wp2
  refine bodyPost_ret (v := .tuple #[.string wy.s, .string wy.b, .bool ok]) (by simp [results, Try.results71, go_sem]) rfl ?_
  exact ⟨rfl, HB.out⟩
set_option maxRecDepth 100000 in
set_option maxHeartbeats 4000000 in
theorem implTextsBetween_c (width s : Int) (root : ByteArray) (n : Int) (P : Option Addr) (cp lo hi k : Nat) (pr : List ByteArray) (w : World) (hP : Rd w lo hi P (strs pr)) (hk : pr.length = k) (hkl : k ≤ 1048576) (hkc : k ≤ cp) :
    Calls Try.prog 78 #[.int .i64 width, .int .i64 s, .string root, .int .i64 n, .slice P k cp] w fun e w' => ∃ A' c', e = .returned (.tuple #[.slice A' (beAll width s root n pr).t.length c', .bool (beOk width s root n pr)]) ∧ Own w' w.heap.size w'.heap.size A' (strs (beAll width s root n pr).t) ∧ Below w.heap.size w w' := by
  have HC := Lib.hid (rootsBy_c width s root n P cp lo hi k pr w hP hk hkl hkc)
  clear hP hk
  generalize beOk width s root n pr = ok at *
  generalize beAll width s root n pr = wy at *
  go_enter Try.func78, Try.ntmps78
  go_wp2_with fail
  refine HC.out.mono ?_
  rintro e w1 ⟨A1, c1, rfl, ho, hb⟩
  have HO := Lib.hid (Own.of_ownsRow ho)
  have HB := Lib.hid hb
  clear ho hb HC
  go_wp2
  refine bodyPost_ret (v := .tuple #[.slice A1 wy.t.length c1, .bool ok]) (by simp [results, Try.results78, go_sem]) rfl ?_
  exact ⟨A1, c1, rfl, HO.out, HB.out⟩
set_option maxRecDepth 100000 in
set_option maxHeartbeats 4000000 in
theorem l06BetweenOk_c (width s : Int) (root : ByteArray) (n : Int) (P : Option Addr) (cp lo hi k : Nat) (pr : List ByteArray) (w : World) (hP : Rd w lo hi P (strs pr)) (hk : pr.length = k) (hkl : k ≤ 1048576) :
    Calls Try.prog 126 #[.int .i64 width, .int .i64 s, .string root, .int .i64 n, .slice P k cp] w fun e w' => e = .returned (.bool (beOk width s root n pr)) ∧ w = w' := by
  have HDEF : Hid (beOk width s root n pr = (inR width 1 32 && decide ((root.size : Int) = width) && areH width pr && decide (1 ≤ s) && decide ((k : Int) = stBe s n))) := Lib.hid (by rw [beOk, hk])
  have HAR := Lib.hid (fun W (h : Rd W 0 W.heap.size P (strs pr)) => l04Hashes_c width P cp 0 W.heap.size k pr W h hk hkl)
  have HST := Lib.hid (fun W => specStepsBetween_c s n W)
  have HR := Lib.hid hP.base
  clear hP hk
  generalize beOk width s root n pr = ok at *
  generalize stBe s n = T at *
  go_enter Try.func126, Try.ntmps126
  go_wp2_with fail
  refine (l02Width_c width _).mono ?_
  rintro e w1 ⟨rfl, rfl⟩
  rcases hq1 : inR width 1 32 with _ | _
  · rw [hq1] at HDEF
    go_wp2
    go_ret
    exact ⟨ret_bool (by rw [HDEF.out]; rfl), rfl⟩
  rw [hq1] at HDEF HAR
  by_cases hq2 : (root.size : Int) = width
  case neg =>
    rw [decide_eq_false hq2] at HDEF
    go_wp2
    go_ret
    exact ⟨ret_bool (by rw [HDEF.out]; rfl), rfl⟩
  rw [decide_eq_true hq2] at HDEF
  go_wp2_with fail
  refine (HAR.out _ HR.out).mono ?_
  rintro e w1 ⟨rfl, rfl⟩
  rw [Bool.and_true]
  rcases hq3 : areH width pr with _ | _
  · rw [hq3] at HDEF
    go_wp2
    go_ret
    exact ⟨ret_bool (by rw [HDEF.out]; rfl), rfl⟩
  rw [hq3] at HDEF
  by_cases hq6 : 1 ≤ s
  case neg =>
    rw [decide_eq_false hq6] at HDEF
    go_wp2
    go_ret
    exact ⟨ret_bool (by rw [HDEF.out]; rfl), rfl⟩
  rw [decide_eq_true hq6] at HDEF
  go_wp2_with fail
  refine (HST.out _).mono ?_
  rintro e w1 ⟨rfl, rfl⟩
  by_cases hq4 : (k : Int) = T
  · subst hq4
    rw [decide_eq_true rfl] at HDEF
    go_wp2
    go_ret
    exact ⟨ret_bool (by rw [HDEF.out]; rfl), rfl⟩
  · have hq5 : (T == (k : Int)) = false := beq_eq_false_iff_ne.2 (fun h => hq4 h.symm)
    rw [decide_eq_false hq4] at HDEF
    go_wp2
    go_ret
    exact ⟨ret_bool (by rw [HDEF.out]; rfl), rfl⟩
set_option maxRecDepth 100000 in
set_option maxHeartbeats 4000000 in
theorem specRootsBy_c (width s : Int) (root : ByteArray) (n : Int) (P : Option Addr) (cp lo hi k : Nat) (pr : List ByteArray) (w : World) (hP : Rd w lo hi P (strs pr)) (hk : pr.length = k) (hkl : k ≤ 1048576) (hkc : k ≤ cp) :
    Calls Try.prog 70 #[.int .i64 width, .int .i64 s, .string root, .int .i64 n, .slice P k cp] w fun e w' => e = .returned (.tuple #[.string (beAll width s root n pr).s, .string (beAll width s root n pr).b, .bool (beOk width s root n pr)]) ∧ Below w.heap.size w w' := by
  have HOK := Lib.hid (l06BetweenOk_c width s root n P cp lo hi k pr w hP hk hkl)
  rcases hok : beOk width s root n pr with _ | _
  · have HTX : Hid (beAll width s root n pr = ⟨ByteArray.empty, ByteArray.empty, []⟩) := Lib.hid (by rw [beAll, hok]; rfl)
    rw [hok] at HOK
    rw [HTX.out]
    clear hP hk hok
    go_enter Try.func70, Try.ntmps70
    go_wp2_with fail
    refine HOK.out.mono ?_
    rintro e w1 ⟨rfl, rfl⟩
    go_wp2
    refine bodyPost_ret (v := .tuple #[.string ⟨#[]⟩, .string ⟨#[]⟩, .bool false]) (by simp [results, Try.results70, go_sem]) rfl ?_
    exact ⟨rfl, Below.refl _ _⟩
  · have hk2 := hok
    rw [beOk, Bool.and_eq_true, Bool.and_eq_true, Bool.and_eq_true, Bool.and_eq_true] at hk2
    obtain ⟨⟨⟨⟨q1, q2⟩, q3⟩, q5⟩, q4⟩ := hk2
    have h1 := of_decide_eq_true q5
    rw [hk] at q4
    obtain ⟨h2, h3, h4⟩ := stBe_nn h1 (of_decide_eq_true q4)
    have HTX : Hid (beAll width s root n pr = beW width root 513 s.toNat n.toNat pr true) := Lib.hid (by rw [beAll, hok]; rfl)
    have hlen := beAll_len (width := width) (s := s) (root := root) (n := n) (pr := pr)
    rw [hok] at HOK
    obtain ⟨z, rfl⟩ : ∃ z : Nat, n = z := ⟨n.toNat, by omega⟩
    obtain ⟨a, rfl⟩ : ∃ a : Nat, s = a := ⟨s.toNat, by omega⟩
    rw [Int.toNat_natCast, Int.toNat_natCast] at h4 HTX
    have hk5 : k ≤ 512 := by rw [h4]; exact Nat.le_trans (beSt_le (by omega) (by omega) (by omega)) (by omega)
    have HI := Lib.hid (fun W (h : Rd W 0 W.heap.size P (strs pr)) => l06Between_c width root q1 (of_decide_eq_true q2) 513 a z k cp 0 W.heap.size P pr true W (by omega) (by omega) (by omega) (by omega) hk h4 hkc q3 h)
    rw [← HTX.out] at HI
    have HP := Lib.hid hP.base
    clear HTX hok q1 q2 q3 q4 q5 h1 h2 h3 h4 hP hk
    generalize beAll width a root z pr = wy at *
    obtain ⟨r, q, t⟩ := wy
    generalize ht : t.length = m at *
    have HSZ := Lib.hid ht
    clear ht
    have HB : Hid (Below w.heap.size w w) := Below.refl _ _
    go_enter Try.func70, Try.ntmps70
    go_wp2_with fail
    refine HOK.out.mono ?_
    rintro e w1 ⟨rfl, rfl⟩
    go_wp2_with fail
    refine calls_named (fun w1 hw => ?_)
    have hz1 : w.heap.size + 0 ≤ w1.heap.size := by rw [hw]; first | omega | (simp [World.setCell]; done) | (simp [World.setCell]; omega)
    replace HB : Hid (Below w.heap.size w w1) := by rw [Hid, hw]; exact (by ((repeat (first | ((with_reducible refine Below.alloc ?_ ?_ _); rotate_left 1; (focus (first | omega | (simp; done) | (simp; omega)))) | (with_reducible refine Below.drew ?_) | ((with_reducible refine Below.setCell ?_ ?_ _); rotate_left 1; (focus (first | omega | (simp; done) | (simp; omega)))))); exact HB.out))
    clear hw
    refine (HI.out _ (HP.out.below HB.out).base).mono ?_
    rintro e w2 ⟨A2, c2, rfl, hown, hb⟩
    have hzw2 : w1.heap.size ≤ w2.heap.size := hb.size
    have hzzw2 : w.heap.size ≤ w2.heap.size := by omega
    replace HB : Hid (Below w.heap.size w w2) := below_then HB.out hb HB.out.size
    clear hb
    clear hown HI
    go_wp2_with fail
    refine wp_named (fun w3 hw => ?_)
    have hz3 : w2.heap.size + 1 ≤ w3.heap.size := by rw [hw]; first | omega | (simp [World.setCell]; done) | (simp [World.setCell]; omega)
    have hzz3 : w.heap.size ≤ w3.heap.size := by omega
    replace HB : Hid (Below w.heap.size w w3) := by rw [Hid, hw]; exact (by ((repeat (first | ((with_reducible refine Below.alloc ?_ ?_ _); rotate_left 1; (focus (first | omega | (simp; done) | (simp; omega)))) | (with_reducible refine Below.drew ?_) | ((with_reducible refine Below.setCell ?_ ?_ _); rotate_left 1; (focus (first | omega | (simp; done) | (simp; omega)))))); exact HB.out))
    have HXv : Hid (NewBox w3 (w2.heap.size) [.string r, .string q, .slice A2 m c2]) := by rw [Hid, hw]; exact ⟨by first | omega | (simp [World.setCell]; done) | (simp [World.setCell]; omega), fun o => by rcases o with _ | _ | _ | o <;> go_simp, fun o => by go_simp⟩
    have hxv := HXv.out.2.1
    have hfv := HXv.out.2.2
    have hkv := HXv.out.1
    clear hw
    go_quiet (fail)
    go_wp2
    refine bodyPost_ret (v := .tuple #[.string r, .string q, .bool true]) (by simp [results, Try.results70, go_sem]) rfl ?_
    exact ⟨rfl, HB.out.trans ((below_drewN _ _).mono (by omega))⟩
set_option maxRecDepth 100000 in
set_option maxHeartbeats 4000000 in
theorem specTextsBetween_c (width s : Int) (root : ByteArray) (n : Int) (P : Option Addr) (cp lo hi k : Nat) (pr : List ByteArray) (w : World) (hP : Rd w lo hi P (strs pr)) (hk : pr.length = k) (hkl : k ≤ 1048576) (hkc : k ≤ cp) :
    Calls Try.prog 77 #[.int .i64 width, .int .i64 s, .string root, .int .i64 n, .slice P k cp] w fun e w' => ∃ A' c', e = .returned (.tuple #[.slice A' (beAll width s root n pr).t.length c', .bool (beOk width s root n pr)]) ∧ Own w' w.heap.size w'.heap.size A' (strs (beAll width s root n pr).t) ∧ Below w.heap.size w w' := by
  have HOK := Lib.hid (l06BetweenOk_c width s root n P cp lo hi k pr w hP hk hkl)
  rcases hok : beOk width s root n pr with _ | _
  · have HTX : Hid (beAll width s root n pr = ⟨ByteArray.empty, ByteArray.empty, []⟩) := Lib.hid (by rw [beAll, hok]; rfl)
    rw [hok] at HOK
    rw [HTX.out]
    clear hP hk hok
    go_enter Try.func77, Try.ntmps77
    go_wp2_with fail
    refine HOK.out.mono ?_
    rintro e w1 ⟨rfl, rfl⟩
    go_wp2
    refine bodyPost_named (fun w2 hw => ?_)
    have HB : Hid (Below w.heap.size w w2) := by rw [Hid, hw]; exact (Below.refl _ _).alloc (Nat.le_refl _) _
    clear hw
    refine bodyPost_ret (v := .tuple #[.slice (some ⟨w.heap.size, 0, none⟩) 0 0, .bool false]) (by simp [results, Try.results77, go_sem]) rfl ?_
    exact ⟨_, _, rfl, Own.nil, HB.out⟩
  · have hk2 := hok
    rw [beOk, Bool.and_eq_true, Bool.and_eq_true, Bool.and_eq_true, Bool.and_eq_true] at hk2
    obtain ⟨⟨⟨⟨q1, q2⟩, q3⟩, q5⟩, q4⟩ := hk2
    have h1 := of_decide_eq_true q5
    rw [hk] at q4
    obtain ⟨h2, h3, h4⟩ := stBe_nn h1 (of_decide_eq_true q4)
    have HTX : Hid (beAll width s root n pr = beW width root 513 s.toNat n.toNat pr true) := Lib.hid (by rw [beAll, hok]; rfl)
    have hlen := beAll_len (width := width) (s := s) (root := root) (n := n) (pr := pr)
    rw [hok] at HOK
    obtain ⟨z, rfl⟩ : ∃ z : Nat, n = z := ⟨n.toNat, by omega⟩
    obtain ⟨a, rfl⟩ : ∃ a : Nat, s = a := ⟨s.toNat, by omega⟩
    rw [Int.toNat_natCast, Int.toNat_natCast] at h4 HTX
    have hk5 : k ≤ 512 := by rw [h4]; exact Nat.le_trans (beSt_le (by omega) (by omega) (by omega)) (by omega)
    have HI := Lib.hid (fun W (h : Rd W 0 W.heap.size P (strs pr)) => l06Between_c width root q1 (of_decide_eq_true q2) 513 a z k cp 0 W.heap.size P pr true W (by omega) (by omega) (by omega) (by omega) hk h4 hkc q3 h)
    rw [← HTX.out] at HI
    have HP := Lib.hid hP.base
    clear HTX hok q1 q2 q3 q4 q5 h1 h2 h3 h4 hP hk
    generalize beAll width a root z pr = wy at *
    obtain ⟨r, q, t⟩ := wy
    generalize ht : t.length = m at *
    have HSZ := Lib.hid ht
    clear ht
    have HB : Hid (Below w.heap.size w w) := Below.refl _ _
    go_enter Try.func77, Try.ntmps77
    go_wp2_with fail
    refine HOK.out.mono ?_
    rintro e w1 ⟨rfl, rfl⟩
    go_wp2_with fail
    refine calls_named (fun w1 hw => ?_)
    have hz1 : w.heap.size + 0 ≤ w1.heap.size := by rw [hw]; first | omega | (simp [World.setCell]; done) | (simp [World.setCell]; omega)
    replace HB : Hid (Below w.heap.size w w1) := by rw [Hid, hw]; exact (by ((repeat (first | ((with_reducible refine Below.alloc ?_ ?_ _); rotate_left 1; (focus (first | omega | (simp; done) | (simp; omega)))) | (with_reducible refine Below.drew ?_) | ((with_reducible refine Below.setCell ?_ ?_ _); rotate_left 1; (focus (first | omega | (simp; done) | (simp; omega)))))); exact HB.out))
    clear hw
    refine (HI.out _ (HP.out.below HB.out).base).mono ?_
    rintro e w2 ⟨A2, c2, rfl, hown, hb⟩
    have hzw2 : w1.heap.size ≤ w2.heap.size := hb.size
    have hzzw2 : w.heap.size ≤ w2.heap.size := by omega
    replace HB : Hid (Below w.heap.size w w2) := below_then HB.out hb HB.out.size
    clear hb
    have hA2 : A2 = none → c2 = 0 := by obtain ⟨_, _, e, _, h2, _⟩ := ownsRow_slice hown; cases e; exact h2
    have HOT : Hid (Own w2 (w1.heap.size) (w2.heap.size) (A2) (strs t)) := Own.of_ownsRow hown
    clear hown HI
    go_wp2_with (at_builtin; refine stop_here ?_)
    intro _
    refine wpList_named (fun w3 hw => ?_)
    have hz3 : w2.heap.size + 2 ≤ w3.heap.size := by rw [hw]; first | omega | (simp [World.setCell]; done) | (simp [World.setCell]; omega)
    have hzz3 : w.heap.size ≤ w3.heap.size := by omega
    replace HB : Hid (Below w.heap.size w w3) := by rw [Hid, hw]; exact (by ((repeat (first | ((with_reducible refine Below.alloc ?_ ?_ _); rotate_left 1; (focus (first | omega | (simp; done) | (simp; omega)))) | (with_reducible refine Below.drew ?_) | ((with_reducible refine Below.setCell ?_ ?_ _); rotate_left 1; (focus (first | omega | (simp; done) | (simp; omega)))))); exact HB.out))
    replace HOT : Hid (Own w3 (w1.heap.size) (w2.heap.size) (A2) (strs t)) := by rw [Hid, hw]; (repeat (first | (with_reducible refine Own.alloc ?_ _) | (with_reducible refine Own.drew ?_) | ((with_reducible refine Own.setCell ?_ ?_ _); rotate_left 1; (focus (first | omega | (simp; done) | (simp; omega)))))); exact HOT.out
    have HXv : Hid (NewBox w3 (w2.heap.size) [.string r, .string q, .slice A2 m c2]) := by rw [Hid, hw]; exact ⟨by first | omega | (simp [World.setCell]; done) | (simp [World.setCell]; omega), fun o => by rcases o with _ | _ | _ | o <;> go_simp, fun o => by go_simp⟩
    have hxv := HXv.out.2.1
    have hfv := HXv.out.2.2
    have hkv := HXv.out.1
    have HXz : Hid (NewBox w3 (w2.heap.size + 1) []) := by rw [Hid, hw]; exact ⟨by first | omega | (simp [World.setCell]; done) | (simp [World.setCell]; omega), fun o => by rcases o with o <;> go_simp, fun o => by go_simp⟩
    have hxz := HXz.out.2.1
    have hfz := HXz.out.2.2
    have hkz := HXz.out.1
    have HROW : Hid ((w3).ownsRow (w2.heap.size + 1) 9 1 (.slice (some ⟨w2.heap.size + 1, 0, none⟩) 0 0) 0 []) := by rw [Hid, hw]; simpa using row_made (w2.alloc _) 9 0
    clear hw
    refine appStr rfl _ _ rfl (w2.heap.size + 1) _ 0 [] rfl HROW.out A2 m c2 0 (w3).heap.size t rfl HSZ.out (HOT.out.rd.base) hA2 (by omega) (by omega) ?_
    intro v9 w9 hown9 hg9
    have hb9 : Below w.heap.size w w9 := below_only HB.out (grown_only HROW.out hg9) (by omega) HB.out.size
    rw [List.nil_append, Nat.zero_add] at hown9
    obtain ⟨A9, c9, rfl, _, _, _⟩ := ownsRow_slice hown9
    have HB9 := Lib.hid hb9
    have HO9 := Lib.hid (Own.of_ownsRow hown9)
    clear hb9 hown9 hg9 HROW HOT HB
    go_wp2
    refine bodyPost_ret (v := .tuple #[.slice A9 m c9, .bool true]) (by simp [results, Try.results77, go_sem]) rfl ?_
    exact ⟨A9, c9, rfl, HO9.out.mono (by omega) (Nat.le_refl _) (Nat.le_refl _), HB9.out⟩
end Go.Proofs.Ytojjjhbiccgjkaa
