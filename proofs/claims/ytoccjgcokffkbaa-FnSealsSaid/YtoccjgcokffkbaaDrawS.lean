/- Small draws. -/
import Derived.Test.YtoccjgcokffkbaaDraw
import Derived.Test.YtoccjgcokffkbaaInts
import Derived.Test.YtoccjgcokffkbaaHash3
namespace Go.Proofs.Ytoccjgcokffkbaa
set_option linter.unusedVariables false
set_option linter.unusedSimpArgs false
open Go.RowKit

theorem strs_appD (a b : List ByteArray) : strs (a ++ b) = strs a ++ strs b := by simp [strs]
set_option maxRecDepth 100000 in
set_option maxHeartbeats 400000 in
theorem l01Once_c {w : World} {p n g : Nat} {B : Option Addr} {l : List Int} (h : Code w p B n g 0 p l) (m : Int) (hm : 0 < m) (hm2 : m ≤ 1000000) :
  Calls Try.prog 57 #[.pointer (some ⟨p, 0, none⟩), .int .i64 m] w fun e w' => ∃ b : Bool, e = .returned (.bool b) ∧ Code w' p B n g 0 p l ∧ Only p (p + 1) w w' := by
 have HC := Lib.hid h
 clear h
 go_enter Try.func57, Try.ntmps57
 go_wp2_with fail
 refine (l01Below_c p n g 0 p B l m _ HC.out hm hm2).mono ?_
 rintro e w1 ⟨x, rfl, x0, x1, hc, ho⟩
 have HC1 := Lib.hid hc
 have HO1 := Lib.hid ho
 clear hc ho HC
 go_wp2
 go_ret
 exact ⟨_, rfl, HC1.out, HO1.out⟩
theorem rd_ints {w : World} {k : Nat} {cs : List Value} {xs : List Int} (h : NewBox w k cs) (e : cs = ints xs) : Rd w k (k + 1) (some ⟨k, 0, none⟩) (ints xs) := fun _ =>
 ⟨k, 0, rfl, Nat.le_refl _, Nat.lt_succ_self _, h.1, fun j u hj => by rw [Nat.zero_add, ← e] at *; exact (h.2.1 j).trans hj⟩
set_option maxRecDepth 100000 in
set_option maxHeartbeats 400000 in
theorem l01PickInt_c {w : World} {p n g : Nat} {B : Option Addr} {l : List Int} (h : Code w p B n g 0 p l) (A : Option Addr) (c m lo hi : Nat) (xs : List Int) (hr : Rd w lo hi A (ints xs)) (hx : xs.length = m) (hm : 0 < m) (hm2 : m ≤ 1000) (hlo : p + 1 ≤ lo) :
  Calls Try.prog 85 #[.pointer (some ⟨p, 0, none⟩), .slice A m c] w fun e w' => ∃ x : Int, e = .returned (.int .i64 x) ∧ x ∈ xs ∧ Code w' p B n g 0 p l ∧ Only p (p + 1) w w' := by
 have HC := Lib.hid h
 have HR := Lib.hid hr
 have HX := Lib.hid hx
 clear h hr hx
 go_enter Try.func85, Try.ntmps85
 go_wp2_with fail
 refine (l01Below_c p n g 0 p B l (m : Nat) _ HC.out (by omega) (by omega)).mono ?_
 rintro e w1 ⟨x, rfl, x0, x1, hc, ho⟩
 have HC1 := Lib.hid hc
 have HO1 := Lib.hid ho
 obtain ⟨k, rfl⟩ : ∃ k : Nat, x = k := ⟨x.toNat, by omega⟩
 obtain ⟨b, off, y, rfl, hb, hy, hcell⟩ := (HR.out.only HO1.out (by omega)).int (k := k) (by rw [HX.out]; omega)
 have HY := Lib.hid (List.mem_of_getElem? hy)
 have hI : (k : Int) < m := by omega
 clear hc ho HC hy
 go_wp2
 go_ret
 exact ⟨y, rfl, HY.out, HC1.out, HO1.out⟩
set_option maxRecDepth 100000 in
set_option maxHeartbeats 400000 in
theorem l01Width_c {w : World} {p n g : Nat} {B : Option Addr} {l : List Int} (h : Code w p B n g 0 p l) (hp : p < w.heap.size) :
  Calls Try.prog 53 #[.pointer (some ⟨p, 0, none⟩)] w fun e w' => ∃ x : Int, e = .returned (.int .i64 x) ∧ I64 x ∧ Code w' p B n g 0 p l ∧ Only p (p + 1) w w' := by
 have HC := Lib.hid h
 clear h
 go_enter Try.func53, Try.ntmps53
 go_wp2_with fail
 refine (l01Below_c p n g 0 p B l 12 _ HC.out (by omega) (by omega)).mono ?_
 rintro e w1 ⟨x, rfl, x0, x1, hc, ho⟩
 have HC1 := Lib.hid hc
 have HO1 := Lib.hid ho
 have hs1 := ho.size
 clear hc ho HC
 rcases (show x = 0 ∨ x = 1 ∨ x = 2 ∨ x = 3 ∨ x = 4 ∨ 5 ≤ x by omega) with rfl | rfl | rfl | rfl | rfl | hx5
 ·go_wp2_with fail
  have hb : NewBox (w1.alloc (.cells #[.int .i64 0, .int .i64 (-1), .int .i64 33, .int .i64 9223372036854775807] 3)) w1.heap.size [.int .i64 0, .int .i64 (-1), .int .i64 33, .int .i64 9223372036854775807] := NewBox.new w1 #[.int .i64 0, .int .i64 (-1), .int .i64 33, .int .i64 9223372036854775807] _
  refine (l01PickInt_c (HC1.out.below ((Below.refl _ _).alloc (Nat.le_refl _) _)) _ 4 4 _ _ [0, -1, 33, 9223372036854775807] (rd_ints hb rfl) rfl (by omega) (by omega) (by omega)).mono ?_
  rintro e w2 ⟨y, rfl, hy, hc2, ho2⟩
  have HY : Hid (I64 y) := Lib.hid (by
   simp only [List.mem_cons, List.not_mem_nil, or_false] at hy
   rcases hy with rfl | rfl | rfl | rfl <;> (constructor <;> omega))
  have HC2 := Lib.hid hc2
  have HO2 := Lib.hid (HO1.out.trans ((Only.of_below ((Below.refl _ _).alloc (Nat.le_refl _) _)).trans ho2))
  clear hc2 ho2 hy hb
  go_wp2
  go_ret
  exact ⟨y, rfl, HY.out, HC2.out, HO2.out⟩
 ·go_wp2
  go_ret
  exact ⟨32, rfl, by constructor <;> omega, HC1.out, HO1.out⟩
 ·go_wp2
  go_ret
  exact ⟨32, rfl, by constructor <;> omega, HC1.out, HO1.out⟩
 ·go_wp2
  go_ret
  exact ⟨1, rfl, by constructor <;> omega, HC1.out, HO1.out⟩
 ·go_wp2
  go_ret
  exact ⟨1, rfl, by constructor <;> omega, HC1.out, HO1.out⟩
 ·have f0 : (x == 0) = false := beq_eq_false_iff_ne.2 (by omega)
  have f1 : (x == 1) = false := beq_eq_false_iff_ne.2 (by omega)
  have f2 : (x == 2) = false := beq_eq_false_iff_ne.2 (by omega)
  have f3 : (x == 3) = false := beq_eq_false_iff_ne.2 (by omega)
  have f4 : (x == 4) = false := beq_eq_false_iff_ne.2 (by omega)
  go_wp2_with fail
  refine (l01Below_c p n g 0 p B l 9 _ HC1.out (by omega) (by omega)).mono ?_
  rintro e w2 ⟨y, rfl, y0, y1, hc2, ho2⟩
  have HC2 := Lib.hid hc2
  have HO2 := Lib.hid (HO1.out.trans ho2)
  have E1 : IntKind.i64.wrap (1 + y) = 1 + y := by rw [IntKind.wrap_i64]; omega
  clear hc2 ho2 f0 f1 f2 f3 f4
  go_wp2
  go_ret
  exact ⟨1 + y, rfl, by constructor <;> omega, HC2.out, HO2.out⟩
set_option maxRecDepth 100000 in
set_option maxHeartbeats 400000 in
theorem l04Few_c {w : World} {p n g : Nat} {B : Option Addr} {l : List Int} (h : Code w p B n g 0 p l) :
  Calls Try.prog 86 #[.pointer (some ⟨p, 0, none⟩)] w fun e w' => ∃ x : Nat, e = .returned (.int .i64 x) ∧ x ≤ 512 ∧ Code w' p B n g 0 p l ∧ Only p (p + 1) w w' := by
 have HC := Lib.hid h
 clear h
 go_enter Try.func86, Try.ntmps86
 go_wp2_with fail
 refine (l01Once_c HC.out 40 (by omega) (by omega)).mono ?_
 rintro e w1 ⟨b, rfl, hc, ho⟩
 have HC1 := Lib.hid hc
 have HO1 := Lib.hid ho
 clear hc ho HC
 rcases b with _ | _
 ·go_wp2_with fail
  refine (l01Below_c p n g 0 p B l 20 _ HC1.out (by omega) (by omega)).mono ?_
  rintro e w2 ⟨y, rfl, y0, y1, hc2, ho2⟩
  obtain ⟨k, rfl⟩ : ∃ k : Nat, y = k := ⟨y.toNat, by omega⟩
  have HC2 := Lib.hid hc2
  have HO2 := Lib.hid (HO1.out.trans ho2)
  clear hc2 ho2
  go_wp2
  go_ret
  exact ⟨k, rfl, by omega, HC2.out, HO2.out⟩
 ·go_wp2_with fail
  refine (l01Below_c p n g 0 p B l 3 _ HC1.out (by omega) (by omega)).mono ?_
  rintro e w2 ⟨y, rfl, y0, y1, hc2, ho2⟩
  obtain ⟨k, hk⟩ : ∃ k : Nat, 512 - y = k := ⟨(512 - y).toNat, by omega⟩
  have HC2 := Lib.hid hc2
  have HO2 := Lib.hid (HO1.out.trans ho2)
  have E1 : IntKind.i64.wrap (512 - y) = k := by rw [IntKind.wrap_i64]; omega
  clear hc2 ho2
  have HK := Lib.hid hk
  clear hk
  go_wp2
  go_ret
  exact ⟨k, rfl, by have := HK.out; omega, HC2.out, HO2.out⟩
set_option maxRecDepth 100000 in
set_option maxHeartbeats 400000 in
theorem l04List_c {w : World} {p n g : Nat} {B : Option Addr} {l : List Int} (h : Code w p B n g 0 p l) (hp : p < w.heap.size) (wd : Int) (m : Nat) (hm : m ≤ 600) :
  Calls Try.prog 56 #[.pointer (some ⟨p, 0, none⟩), .int .i64 wd, .int .i64 m] w fun e w' => ∃ (A : Option Addr) (c : Nat) (ss : List ByteArray), e = .returned (.slice A m c) ∧ (ss.length = m ∧ (∀ s ∈ ss, s.size ≤ 40) ∧ w'.ownsRow w.heap.size 9 1 (.slice A m c) m (strs ss)) ∧ Code w' p B n g 0 p l ∧ Only p (p + 1) w w' := by
 have HC := Lib.hid h
 have HW := Lib.hid (fun W => l02Width_c wd W)
 clear h
 have HROW : Hid ((w.alloc (.cells #[] 9)).ownsRow w.heap.size 9 1 (.slice (some ⟨w.heap.size, 0, none⟩) 0 0) 0 []) := Lib.hid (World.ownsRow_made w #[] 0 (Nat.le_refl _) (Nat.zero_le _) (by simp))
 rcases hq : inR wd 1 32 with _ | _
 ·rw [hq] at HW
  go_enter Try.func56, Try.ntmps56
  go_wp2_with fail
  refine (HW.out _).mono ?_
  rintro e w0 ⟨rfl, rfl⟩
  go_wp2
  go_loopw [7, 8] (fun v i wx => ∃ (k : Nat) (A0 : Option Addr) (c0 : Nat) (ss : List ByteArray), k ≤ m ∧ i = .int .i64 k ∧ v = .slice A0 k c0 ∧ (ss.length = k ∧ ∀ s ∈ ss, s.size ≤ 40) ∧ wx.ownsRow w.heap.size 9 1 (.slice A0 k c0) k (strs ss) ∧ Code wx p B n g 0 p l ∧ Only p (p + 1) w wx) (fun _ i _ => m - (intOf i).toNat)
  case atStart => exact ⟨0, _, 0, [], Nat.zero_le _, rfl, rfl, ⟨rfl, fun s hs => by cases hs⟩, HROW.out, HC.out.below ((Below.refl _ _).alloc (Nat.le_refl _) _), Only.of_below ((Below.refl _ _).alloc (Nat.le_refl _) _)⟩
  case round =>
   clear HROW HC
   obtain ⟨k, A0, c0, ss, hk, rfl, rfl, ⟨hsl, hsz⟩, how, hcd, hon⟩ := hrel
   have HOW := Lib.hid how
   have HCD := Lib.hid hcd
   have HON := Lib.hid hon
   have HSS := Lib.hid (And.intro hsl hsz)
   have hs0 := hon.size
   clear how hcd hon hsl hsz
   by_cases hlt : k < m
   ·have hI : (k : Int) < m := by omega
    go_wp2_with fail
    refine (l01Text_c p n g 0 p B l 3 wr HCD.out (by omega) (by omega)).mono ?_
    rintro e w1 ⟨s, rfl, hs, hc1, ho1⟩
    have HC1 := Lib.hid hc1
    have HO1 := Lib.hid (HON.out.trans ho1)
    have HW1 := Lib.hid (row_onlyP HOW.out ho1 (by omega))
    have hs1 := ho1.size
    clear hc1 ho1 HCD HON HOW
    go_wp2_with (at_builtin; refine app1Str rfl _ _ rfl w.heap.size _ _ _ rfl (HW1.out.alloc _) w1.heap.size s rfl (NewBox.new w1 _ _) (by omega) (by simp; omega) ?_)
    intro v2 w2 hown2 hg2
    obtain ⟨g2, c2, hge⟩ := row_formD hown2 (Nat.succ_pos k)
    subst hge
    have hon2 := grown_only (HW1.out.alloc _) hg2
    rw [← strs_appD] at hown2
    have HW2 := Lib.hid hown2
    have hA : Only w.heap.size (w1.heap.size + 1) w1 w2 := (Only.of_below ((Below.refl _ _).alloc (Nat.le_refl _) _)).trans (by simpa using hon2)
    have HO2 := Lib.hid (only_two HO1.out hA (Nat.le_refl _))
    have HC2 := Lib.hid (HC1.out.only hA hp)
    have HLB : Hid ((ss ++ [s]).length = k + 1 ∧ ∀ t ∈ ss ++ [s], t.size ≤ 40) := Lib.hid ⟨by rw [List.length_append, HSS.out.1]; rfl, fun t ht => (List.mem_append.1 ht).elim (HSS.out.2 t) (fun h => by rw [List.mem_singleton.1 h]; omega)⟩
    clear hown2 hg2 hon2 hA HO1 HC1 HW1
    go_wp2
    go_roundw
    case rel => exact ⟨k + 1, _, c2, ss ++ [s], by omega, by go_num, rfl, HLB.out, HW2.out, HC2.out, HO2.out⟩
    case measure => simp [intOf]; omega
   ·obtain rfl : m = k := by omega
    go_wp2
    go_ret
    exact ⟨_, _, ss, rfl, ⟨HSS.out.1, HSS.out.2, HOW.out⟩, HCD.out, HON.out⟩
 ·obtain ⟨z, rfl⟩ : ∃ z : Nat, wd = z := ⟨wd.toNat, by have := inR_true.1 hq; omega⟩
  have hz2 : z ≤ 32 ∧ 1 ≤ z := by have := inR_true.1 hq; omega
  rw [hq] at HW
  go_enter Try.func56, Try.ntmps56
  go_wp2_with fail
  refine (HW.out _).mono ?_
  rintro e w0 ⟨rfl, rfl⟩
  go_wp2
  go_loopw [7, 8] (fun v i wx => ∃ (k : Nat) (A0 : Option Addr) (c0 : Nat) (ss : List ByteArray), k ≤ m ∧ i = .int .i64 k ∧ v = .slice A0 k c0 ∧ (ss.length = k ∧ ∀ s ∈ ss, s.size ≤ 40) ∧ wx.ownsRow w.heap.size 9 1 (.slice A0 k c0) k (strs ss) ∧ Code wx p B n g 0 p l ∧ Only p (p + 1) w wx) (fun _ i _ => m - (intOf i).toNat)
  case atStart => exact ⟨0, _, 0, [], Nat.zero_le _, rfl, rfl, ⟨rfl, fun s hs => by cases hs⟩, HROW.out, HC.out.below ((Below.refl _ _).alloc (Nat.le_refl _) _), Only.of_below ((Below.refl _ _).alloc (Nat.le_refl _) _)⟩
  case round =>
   clear HROW HC
   obtain ⟨k, A0, c0, ss, hk, rfl, rfl, ⟨hsl, hsz⟩, how, hcd, hon⟩ := hrel
   have HOW := Lib.hid how
   have HCD := Lib.hid hcd
   have HON := Lib.hid hon
   have HSS := Lib.hid (And.intro hsl hsz)
   have hs0 := hon.size
   clear how hcd hon hsl hsz
   by_cases hlt : k < m
   ·have hI : (k : Int) < m := by omega
    go_wp2_with fail
    refine (l01Text_c p n g 0 p B l z wr HCD.out (by omega) (by omega)).mono ?_
    rintro e w1 ⟨s, rfl, hs, hc1, ho1⟩
    have HC1 := Lib.hid hc1
    have HO1 := Lib.hid (HON.out.trans ho1)
    have HW1 := Lib.hid (row_onlyP HOW.out ho1 (by omega))
    have hs1 := ho1.size
    clear hc1 ho1 HCD HON HOW
    go_wp2_with (at_builtin; refine app1Str rfl _ _ rfl w.heap.size _ _ _ rfl (HW1.out.alloc _) w1.heap.size s rfl (NewBox.new w1 _ _) (by omega) (by simp; omega) ?_)
    intro v2 w2 hown2 hg2
    obtain ⟨g2, c2, hge⟩ := row_formD hown2 (Nat.succ_pos k)
    subst hge
    have hon2 := grown_only (HW1.out.alloc _) hg2
    rw [← strs_appD] at hown2
    have HW2 := Lib.hid hown2
    have hA : Only w.heap.size (w1.heap.size + 1) w1 w2 := (Only.of_below ((Below.refl _ _).alloc (Nat.le_refl _) _)).trans (by simpa using hon2)
    have HO2 := Lib.hid (only_two HO1.out hA (Nat.le_refl _))
    have HC2 := Lib.hid (HC1.out.only hA hp)
    have HLB : Hid ((ss ++ [s]).length = k + 1 ∧ ∀ t ∈ ss ++ [s], t.size ≤ 40) := Lib.hid ⟨by rw [List.length_append, HSS.out.1]; rfl, fun t ht => (List.mem_append.1 ht).elim (HSS.out.2 t) (fun h => by rw [List.mem_singleton.1 h]; omega)⟩
    clear hown2 hg2 hon2 hA HO1 HC1 HW1
    go_wp2
    go_roundw
    case rel => exact ⟨k + 1, _, c2, ss ++ [s], by omega, by go_num, rfl, HLB.out, HW2.out, HC2.out, HO2.out⟩
    case measure => simp [intOf]; omega
   ·obtain rfl : m = k := by omega
    go_wp2
    go_ret
    exact ⟨_, _, ss, rfl, ⟨HSS.out.1, HSS.out.2, HOW.out⟩, HCD.out, HON.out⟩
set_option maxRecDepth 100000 in
set_option maxHeartbeats 400000 in
theorem l03Hash_c {w : World} {p n g : Nat} {B : Option Addr} {l : List Int} (h : Code w p B n g 0 p l) (hp : p < w.heap.size) (wd : Int) :
  Calls Try.prog 118 #[.pointer (some ⟨p, 0, none⟩), .int .i64 wd] w fun e w' => ∃ s : ByteArray, e = .returned (.string s) ∧ s.size ≤ 40 ∧ Code w' p B n g 0 p l ∧ Only p (p + 1) w w' := by
 have HC := Lib.hid h
 have HW := Lib.hid (fun W => l02Width_c wd W)
 clear h
 rcases hq : inR wd 1 32 with _ | _
 ·rw [hq] at HW
  go_enter Try.func118, Try.ntmps118
  go_wp2_with fail
  refine (HW.out _).mono ?_
  rintro e w0 ⟨rfl, rfl⟩
  go_wp2_with fail
  refine (l01Once_c HC.out 40 (by omega) (by omega)).mono ?_
  rintro e w1 ⟨b, rfl, hc, ho⟩
  have HC1 := Lib.hid hc
  have HO1 := Lib.hid ho
  have hs1 := ho.size
  clear hc ho HW
  rcases b with _ | _
  ·go_wp2_with fail
   refine (l01Text_c p n g 0 p B l 4 _ HC1.out (by omega) (by omega)).mono ?_
   rintro e w2 ⟨s, rfl, hs, hc2, ho2⟩
   have HC2 := Lib.hid hc2
   have HO2 := Lib.hid (HO1.out.trans ho2)
   clear hc2 ho2
   go_wp2
   go_ret
   exact ⟨s, rfl, by omega, HC2.out, HO2.out⟩
  ·go_wp2_with fail
   refine (l01Below_c p n g 0 p B l 3 _ HC1.out (by omega) (by omega)).mono ?_
   rintro e w2 ⟨y, rfl, y0, y1, hc2, ho2⟩
   have HC2 := Lib.hid hc2
   have HO2 := Lib.hid (HO1.out.trans ho2)
   have hs2 := ho2.size
   obtain ⟨m, hm⟩ : ∃ m : Nat, (4 : Int) + y - 1 = m := ⟨((4 : Int) + y - 1).toNat, by omega⟩
   have E1 : IntKind.i64.wrap ((4 : Int) + y) = (4 : Int) + y := by rw [IntKind.wrap_i64]; omega
   have E2 : IntKind.i64.wrap ((4 : Int) + y - 1) = m := by rw [IntKind.wrap_i64]; omega
   have hm40 : m ≤ 40 := by omega
   clear hc2 ho2 hm y0 y1
   go_wp2_with fail
   refine (l01Text_c p n g 0 p B l m _ HC2.out (by omega) (by omega)).mono ?_
   rintro e w3 ⟨s, rfl, hs, hc3, ho3⟩
   have HC3 := Lib.hid hc3
   have HO3 := Lib.hid (HO2.out.trans ho3)
   clear hc3 ho3
   go_wp2
   go_ret
   exact ⟨s, rfl, by omega, HC3.out, HO3.out⟩
 ·obtain ⟨z, rfl⟩ : ∃ z : Nat, wd = z := ⟨wd.toNat, by have := inR_true.1 hq; omega⟩
  have hz2 : z ≤ 32 ∧ 1 ≤ z := by have := inR_true.1 hq; omega
  rw [hq] at HW
  go_enter Try.func118, Try.ntmps118
  go_wp2_with fail
  refine (HW.out _).mono ?_
  rintro e w0 ⟨rfl, rfl⟩
  go_wp2_with fail
  refine (l01Once_c HC.out 40 (by omega) (by omega)).mono ?_
  rintro e w1 ⟨b, rfl, hc, ho⟩
  have HC1 := Lib.hid hc
  have HO1 := Lib.hid ho
  have hs1 := ho.size
  clear hc ho HW
  rcases b with _ | _
  ·go_wp2_with fail
   refine (l01Text_c p n g 0 p B l z _ HC1.out (by omega) (by omega)).mono ?_
   rintro e w2 ⟨s, rfl, hs, hc2, ho2⟩
   have HC2 := Lib.hid hc2
   have HO2 := Lib.hid (HO1.out.trans ho2)
   clear hc2 ho2
   go_wp2
   go_ret
   exact ⟨s, rfl, by omega, HC2.out, HO2.out⟩
  ·go_wp2_with fail
   refine (l01Below_c p n g 0 p B l 3 _ HC1.out (by omega) (by omega)).mono ?_
   rintro e w2 ⟨y, rfl, y0, y1, hc2, ho2⟩
   have HC2 := Lib.hid hc2
   have HO2 := Lib.hid (HO1.out.trans ho2)
   have hs2 := ho2.size
   obtain ⟨m, hm⟩ : ∃ m : Nat, (z : Int) + y - 1 = m := ⟨((z : Int) + y - 1).toNat, by omega⟩
   have E1 : IntKind.i64.wrap ((z : Int) + y) = (z : Int) + y := by rw [IntKind.wrap_i64]; omega
   have E2 : IntKind.i64.wrap ((z : Int) + y - 1) = m := by rw [IntKind.wrap_i64]; omega
   have hm40 : m ≤ 40 := by omega
   clear hc2 ho2 hm y0 y1
   go_wp2_with fail
   refine (l01Text_c p n g 0 p B l m _ HC2.out (by omega) (by omega)).mono ?_
   rintro e w3 ⟨s, rfl, hs, hc3, ho3⟩
   have HC3 := Lib.hid hc3
   have HO3 := Lib.hid (HO2.out.trans ho3)
   clear hc3 ho3
   go_wp2
   go_ret
   exact ⟨s, rfl, by omega, HC3.out, HO3.out⟩
theorem row_boxS {w : World} {b n : Nat} {xs : List Value} {base : Nat} {e : TypeId} (h : w.ownsRow base e 1 (.slice (some ⟨b, 0, none⟩) n n) n xs) : NewBox w b xs ∧ base ≤ b := by
 rcases h.2 with ⟨e1, _⟩ | ⟨g, cap, cur, e1, h2, h3, h4, h5, h6, h7⟩
 ·cases e1
 ·cases e1
  rw [Nat.mul_one] at h6 h7
  rw [List.take_of_length_le (by rw [Array.length_toList, h6]; exact Nat.le_refl _)] at h7
  refine ⟨⟨(Array.getElem?_eq_some_iff.1 h3).1, fun o => ?_, fun o => ?_⟩, h2⟩
  ·rw [← h7]; simp [World.cell?, h3]
  ·simp [World.frozen?, h3]
theorem bc_set {bs : List UInt8} {k : Nat} {x : Int} (h0 : 0 ≤ x) (h1 : x ≤ 255) : (Lib.byteCells bs).set k (.int .u8 x) = Lib.byteCells (bs.set k (UInt8.ofNat x.toNat)) := by
 have h := byte_cell h0 h1
 simp only [Lib.byteCells, List.map_cons, List.map_nil] at h
 injection h with h2
 rw [Lib.byteCells, Lib.byteCells, List.map_set, h2]
set_option maxRecDepth 100000 in
set_option maxHeartbeats 400000 in
theorem l01Long_c (m : Nat) (x : Int) (w : World) (hm : m ≤ 4096) (hx0 : 0 ≤ x) (hx1 : x ≤ 255) :
  Calls Try.prog 117 #[.int .i64 m, .int .u8 x] w fun e w' => ∃ s : ByteArray, e = .returned (.string s) ∧ s.size = m ∧ Below w.heap.size w w' := by
 obtain ⟨i0, hi0, hz0, hz1, hz2⟩ := info_parts info_dbyte
 go_enter Try.func117, Try.ntmps117
 go_wp2_with (at_make; refine wpList_make_full _ rfl _ _ 22 rfl w.heap.size 5 i0 _ 1 Try.underlying22 hi0 hz0 hz1 _ _ _ _ m rfl rfl rfl rfl (by rw [hz2]; omega) (by unfold maxLen; omega) (by simp) ?_)
 intro w1 hown hg
 simp only [Nat.mul_one, Value.cells, toList_madeCells_one] at hown
 have hb1 := (Below.refl w.heap.size w).grown hg (by first | omega | (simp; done) | (simp; omega)) (by first | omega | (simp; done) | (simp; omega))
 have hbx : NewBox w1 w.heap.size (Lib.byteCells (List.replicate m 0)) := by
  have h := (row_boxS hown).1
  rw [show Lib.byteCells (List.replicate m (0 : UInt8)) = List.replicate m (.int .u8 0) by simp [Lib.byteCells]]
  exact h
 have HB1 := Lib.hid hb1
 have HBX := Lib.hid hbx
 clear hown hg hb1 hbx hi0 hz0 hz1 hz2
 go_wp2
 go_loopw [6] (fun i wr => ∃ (k : Nat) (bs : List UInt8), k ≤ m ∧ i = .int .i64 k ∧ bs.length = m ∧ NewBox wr w.heap.size (Lib.byteCells bs) ∧ Below w.heap.size w wr) (fun i _ => m - (intOf i).toNat)
 case atStart => exact ⟨0, _, Nat.zero_le _, rfl, List.length_replicate, HBX.out, HB1.out⟩
 case round =>
  clear HBX HB1
  obtain ⟨k, bs, hk, rfl, hbs, hx, hb⟩ := hrel
  have HX := Lib.hid hx
  have HB := Lib.hid hb
  have HBS := Lib.hid hbs
  by_cases hlt : k < m
  ·have hkl : k < (Lib.byteCells bs).length := by rw [dbys_len, hbs]; exact hlt
   have hc0 := hx.cell (List.getElem?_eq_getElem hkl)
   have hf0 := hx.2.2 k
   have hI : (k : Int) < m := by omega
   have HKL := Lib.hid hkl
   clear hx hb hbs
   go_wp2
   go_roundw
   case rel => exact ⟨k + 1, bs.set k (UInt8.ofNat x.toNat), by omega, by go_num, by rw [List.length_set]; exact HBS.out, by rw [← bc_set hx0 hx1]; exact HX.out.setD HKL.out _, HB.out.setCell (Nat.le_refl _) _⟩
   case measure => simp [intOf]; omega
  ·obtain rfl : m = k := by omega
   have hcb := run_convert_bytes_back (P := Try.prog) wr 22 9 5 ⟨w.heap.size, 0, none⟩ m bs Try.underlying22 Try.underlying5 Try.underlying9 (fun j hj => by
    rw [Addr.add_lit, Nat.zero_add]
    refine hx.cell ?_
    simp [Lib.byteCells, hj])
   rw [hbs] at hcb
   have hss : (⟨bs.toArray⟩ : ByteArray).size = m := by show bs.toArray.size = m; simpa using hbs
   have HSS := Lib.hid hss
   generalize (⟨bs.toArray⟩ : ByteArray) = s at *
   clear hx hb hbs hss
   go_wp2
   go_ret
   exact ⟨s, rfl, HSS.out, HB.out⟩
end Go.Proofs.Ytoccjgcokffkbaa
