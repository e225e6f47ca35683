/- HalfOf: the greatest power of two below a size. Roots of leaves. The root of a range that grew from nothing is the root of its leaves: the plain law. -/
import Derived.Test.YtmmepogjocfefaaGreatHash3
import Derived.Shelf.Small.Bits
import Derived.Lib.ItoaNum
import Derived.Ground.NamesProg
import Derived.Lib.Agree
import Derived.Test.YtmmepogjocfefaaGreatPks
import Derived.Test.YtmmepogjocfefaaGreatLogs
import Derived.Test.YtmmepogjocfefaaGreatRoot
namespace Go.Proofs.YtmmepogjocfefaaGreat
set_option linter.unusedVariables false
set_option linter.unusedSimpArgs false
open Go.Shelf Go.RowKit

def laysLen_ren : Go.Shelf.Ren := ⟨fun | 125 => 172 | 128 => 195 | 129 => 196 | n => n, fun | 46 => 198 | 3 => 3 | 51 => 204 | 53 => 219 | 4 => 4 | 5 => 5 | 9 => 9 | n => n, fun | n => n⟩
theorem laysLen : Go.Proofs.Lays.n125 Tryz.prog laysLen_ren := {
 mixed := by kernel_rfl
 f125 := Tryz.func172.trans (congrArg some (by kernel_rfl))
 f128 := Tryz.func195.trans (congrArg some (by kernel_rfl))
 f129 := Tryz.func196.trans (congrArg some (by kernel_rfl))
 t3 := Tryz.underlying3
 a3 := Tryz.isAgg3
 z3 := Tryz.sizeOf3
 v3 := Tryz.zeroValue3
 t4 := Tryz.underlying4
 a4 := Tryz.isAgg4
 z4 := Tryz.sizeOf4
 v4 := Tryz.zeroValue4
 t5 := Tryz.underlying5
 a5 := Tryz.isAgg5
 z5 := Tryz.sizeOf5
 v5 := Tryz.zeroValue5
 t9 := Tryz.underlying9
 a9 := Tryz.isAgg9
 z9 := Tryz.sizeOf9
 v9 := Tryz.zeroValue9
 t46 := Tryz.underlying198
 a46 := Tryz.isAgg198
 z46 := Tryz.sizeOf198
 v46 := Tryz.zeroValue198
 t51 := Tryz.underlying204
 a51 := Tryz.isAgg204
 z51 := Tryz.sizeOf204
 v51 := Tryz.zeroValue204
 t53 := Tryz.underlying219
 a53 := Tryz.isAgg219
 z53 := Tryz.sizeOf219
 v53 := Tryz.zeroValue219 }

theorem fLen : laysLen_ren.f 125 = 172 := by kernel_rfl
def halfN (n : Nat) : Nat := 2 ^ (Lib.bitLen (n - 1) - 1)
theorem bitLen_bd {x : Nat} (h0 : x ≠ 0) (h : x < 512) : 1 ≤ Lib.bitLen x ∧ Lib.bitLen x ≤ 9 ∧ 2 ^ (Lib.bitLen x - 1) ≤ x ∧ x < 2 ^ Lib.bitLen x := by
 obtain ⟨h1, h2, h3⟩ := Lib.bitLenAux_bounds 64 x (Nat.lt_trans h (by decide)) h0
 refine ⟨h1, ?_, h2, h3⟩
 rcases Nat.lt_or_ge 9 (Lib.bitLen x) with h9 | h9
 ·exfalso
  have h4 : 2 ^ 9 ≤ 2 ^ (Lib.bitLenAux 64 x - 1) := Nat.pow_le_pow_right (by omega) (by have : Lib.bitLen x = Lib.bitLenAux 64 x := rfl; omega)
  omega
 ·exact h9
theorem halfN_bd {n : Nat} (h2 : 2 ≤ n) (h : n ≤ 512) : 1 ≤ halfN n ∧ halfN n < n ∧ n ≤ 2 * halfN n := by
 obtain ⟨h1, h9, h3, h4⟩ := bitLen_bd (x := n - 1) (by omega) (by omega)
 have h5 : 2 ^ Lib.bitLen (n - 1) = 2 * 2 ^ (Lib.bitLen (n - 1) - 1) := by
  rw [← Nat.pow_succ', Nat.succ_eq_add_one, Nat.sub_add_cancel h1]
 have h6 : 0 < 2 ^ (Lib.bitLen (n - 1) - 1) := Nat.two_pow_pos _
 unfold halfN
 omega
theorem halfN_eq {n j : Nat} (h2 : 2 ≤ n) (h : n ≤ 512) (h1 : 2 ^ j < n) (h3 : n ≤ 2 * 2 ^ j) : halfN n = 2 ^ j := by
 obtain ⟨k1, k2, k3⟩ := halfN_bd h2 h
 unfold halfN at *
 generalize Lib.bitLen (n - 1) - 1 = b at *
 have : b = j := by
  rcases Nat.lt_trichotomy b j with hb | hb | hb
  ·have h5 : 2 ^ (b + 1) ≤ 2 ^ j := Nat.pow_le_pow_right (by omega) hb
   rw [Nat.pow_succ] at h5
   omega
  ·exact hb
  ·have h5 : 2 ^ (j + 1) ≤ 2 ^ b := Nat.pow_le_pow_right (by omega) hb
   rw [Nat.pow_succ] at h5
   omega
 rw [this]

set_option maxRecDepth 100000 in
set_option maxHeartbeats 400000 in
theorem Len_bits_c (x : Nat) (w : World) (h : x < 512) : Calls Tryz.prog 172 #[.int .u64 x] w fun e w' => e = .returned (.int .i64 (Lib.bitLen x : Nat)) ∧ w = w' := by
 have := Any.bits_Len laysLen x w (by omega) (by omega)
 rw [fLen, Int.toNat_natCast] at this
 exact this.mono fun _ _ hh => ⟨hh.1, hh.2.symm⟩
set_option maxRecDepth 100000 in
set_option maxHeartbeats 400000 in
theorem implHalfOf_c (n : Nat) (w : World) (h2 : 2 ≤ n) (h : n ≤ 512) : Calls Tryz.prog 139 #[.int .i64 n] w fun e w' => e = .returned (.int .i64 (halfN n : Nat)) ∧ w = w' := by
 obtain ⟨h1, h9, _, _⟩ := bitLen_bd (x := n - 1) (by omega) (by omega)
 have hq : inR (n : Int) 2 512 = true := inR_true.2 ⟨by omega, by omega⟩
 have HQ := Lib.hid hq
 have HH : Hid (halfN n = 2 ^ (Lib.bitLen (n - 1) - 1)) := Lib.hid rfl
 have HL := Lib.hid (fun W => Len_bits_c (n - 1) W (by omega))
 obtain ⟨x, hx⟩ : ∃ x, x = n - 1 := ⟨_, rfl⟩
 have E1 : (n : Int) - 1 = x := by omega
 have E2 : IntKind.i64.wrap ((n : Int) - 1) = x := by rw [IntKind.wrap_i64]; omega
 have E3 : IntKind.u64.wrap (x : Int) = x := by rw [IntKind.wrap_u64]; omega
 rw [← hx] at HL HH h1 h9
 clear hq hx
 generalize Lib.bitLen x = b at *
 go_enter Tryz.func139, Tryz.ntmps139
 go_wp2_with fail
 refine (inRange_c n 2 512 _).mono ?_
 rintro e w1 ⟨rfl, rfl⟩
 rw [HQ.out]
 go_wp2_with fail
 refine (HL.out _).mono ?_
 rintro e w1 ⟨rfl, rfl⟩
 rcases (show b = 1 ∨ b = 2 ∨ b = 3 ∨ b = 4 ∨ b = 5 ∨ b = 6 ∨ b = 7 ∨ b = 8 ∨ b = 9 by omega) with rfl | rfl | rfl | rfl | rfl | rfl | rfl | rfl | rfl
 all_goals
  go_wp2
  go_ret
  exact ⟨by rw [HH.out]; rfl, rfl⟩
set_option maxRecDepth 100000 in
set_option maxHeartbeats 400000 in
theorem specHalfOf_c (n : Nat) (w : World) (h2 : 2 ≤ n) (h : n ≤ 512) : Calls Tryz.prog 112 #[.int .i64 n] w fun e w' => e = .returned (.int .i64 (halfN n : Nat)) ∧ w = w' := by
 have hq : inR (n : Int) 2 512 = true := inR_true.2 ⟨by omega, by omega⟩
 have HQ := Lib.hid hq
 clear hq
 have hn5 : (n : Int) ≤ 512 := by omega
 go_enter Tryz.func112, Tryz.ntmps112
 go_wp2_with fail
 refine (l01In_c n 2 512 _).mono ?_
 rintro e w1 ⟨rfl, rfl⟩
 rw [HQ.out]
 go_wp2
 go_loop [3] (fun p => ∃ q j : Nat, p = .int .i64 q ∧ q = 2 ^ j ∧ q < n) (fun p => n - (intOf p).toNat)
 case atStart => exact ⟨1, 0, rfl, rfl, by omega⟩
 case round =>
  obtain ⟨q, j, rfl, hq, hlt⟩ := hrel
  have hpos : 0 < q := by rw [hq]; exact Nat.two_pow_pos _
  have HQ2 := Lib.hid hq
  clear hq
  rcases Nat.lt_or_ge (2 * q) n with hs | hs
  ·go_wp2
   go_round
   case rel => exact ⟨2 * q, j + 1, by go_num, by rw [Nat.pow_succ, ← HQ2.out]; omega, hs⟩
   case measure => simp [intOf]; omega
  ·have HE : Hid (halfN n = q) := Lib.hid (by rw [halfN_eq (j := j) h2 h (by rw [← HQ2.out]; exact hlt) (by rw [← HQ2.out]; exact hs), ← HQ2.out])
   go_wp2
   go_ret
   exact ⟨by rw [HE.out]; rfl, rfl⟩
end Go.Proofs.YtmmepogjocfefaaGreat

namespace Go.Proofs.YtmmepogjocfefaaGreat
set_option linter.unusedVariables false
set_option linter.unusedSimpArgs false
open Go.RowKit

def rootFu (width : Int) : Nat → List ByteArray → ByteArray
 | 0, _ => ByteArray.empty
 | f + 1, l => if l.length = 0 then emptyT width else if l.length = 1 then l.getD 0 ByteArray.empty else nodeT width (rootFu width f (l.take (halfN l.length))) (rootFu width f (l.drop (halfN l.length)))
theorem areH_sub {width : Int} {l l' : List ByteArray} (h : areH width l = true) (hs : ∀ s ∈ l', s ∈ l) : areH width l' = true := by
 rw [areH, List.all_eq_true]
 intro s hm
 exact decide_eq_true (areH_mem h s (hs s hm))
theorem rootFu_size {width : Int} (hw : inR width 1 32 = true) : ∀ {f : Nat} {l : List ByteArray}, l.length < f → l.length ≤ 512 → areH width l = true → ((rootFu width f l).size : Int) = width
 | 0, l, h, _, _ => by omega
 | f + 1, l, h, h5, ha => by
   rw [rootFu]
   split
   ·exact emptyT_size hw
   ·split
    ·rename_i h0 h1
     refine areH_mem ha _ ?_
     rw [List.getD_eq_getElem?_getD, List.getElem?_eq_getElem (by omega)]
     exact List.getElem_mem (by omega)
    ·rename_i h0 h1
     obtain ⟨k1, k2, k3⟩ := halfN_bd (n := l.length) (by omega) h5
     exact nodeT_size hw (rootFu_size hw (by rw [List.length_take]; omega) (by rw [List.length_take]; omega) (areH_sub ha (fun s hs => List.mem_of_mem_take hs)))
      (rootFu_size hw (by rw [List.length_drop]; omega) (by rw [List.length_drop]; omega) (areH_sub ha (fun s hs => List.mem_of_mem_drop hs)))
theorem Rd.takeS {w : World} {lo hi : Nat} {A : Option Addr} {l : List ByteArray} (h : Rd w lo hi A (strs l)) (k : Nat) : Rd w lo hi A (strs (l.take k)) := by
 refine Rd.pre (ys := strs (l.drop k)) ?_
 rw [strs, strs, ← List.map_append, List.take_append_drop]
 exact h
theorem Rd.dropS {w : World} {lo hi b off : Nat} {l : List ByteArray} (h : Rd w lo hi (some ⟨b, off, none⟩) (strs l)) (k : Nat) : Rd w lo hi (some ⟨b, off + k, none⟩) (strs (l.drop k)) := by
 intro hn
 have hne : strs l ≠ [] := by
  intro e
  apply hn
  have : l = [] := List.map_eq_nil_iff.1 e
  rw [this, List.drop_nil]
  rfl
 obtain ⟨b', off', e, h2, h3, h4, h5⟩ := h hne
 cases e
 refine ⟨b, off + k, rfl, h2, h3, h4, fun j u hu => ?_⟩
 have := h5 (k + j) u (by rw [← hu, strs, strs, List.map_drop, List.getElem?_drop])
 rwa [← Nat.add_assoc] at this
theorem fu_step {width : Int} {f n : Nat} {l : List ByteArray} (hn : l.length = n) (h2 : 2 ≤ n) : rootFu width (f + 1) l = nodeT width (rootFu width f (l.take (halfN n))) (rootFu width f (l.drop (halfN n))) := by
 rw [rootFu, if_neg (by omega), if_neg (by omega), hn]
theorem fu_zero {width : Int} {f : Nat} {l : List ByteArray} (hn : l.length = 0) : rootFu width (f + 1) l = emptyT width := by rw [rootFu, if_pos hn]
theorem fu_one {width : Int} {f : Nat} {l : List ByteArray} {s : ByteArray} (hn : l.length = 1) (hs : l[0]? = some s) : rootFu width (f + 1) l = s := by
 rw [rootFu, if_neg (by omega), if_pos hn, List.getD_eq_getElem?_getD, hs]; rfl

set_option maxRecDepth 100000 in
set_option maxHeartbeats 4000000 in
theorem rootOf_c (width : Int) (hw : inR width 1 32 = true) : ∀ (f : Nat) (A : Option Addr) (c lo hi n : Nat) (l : List ByteArray) (w : World), Rd w lo hi A (strs l) → l.length = n → n ≤ 512 → n < f → n ≤ c → areH width l = true →
  Calls Tryz.prog 140 #[.int .i64 width, .slice A n c] w fun e w' => e = .returned (.string (rootFu width f l)) ∧ Below w.heap.size w w'
 | 0, A, c, lo, hi, n, l, w, hr, hn, h5, hf, hc, ha => by omega
 | f + 1, A, c, lo, hi, n, l, w, hr, hn, h5, hf, hc, ha => by
   have IH := Lib.hid (rootOf_c width hw f)
   have hw2 := inR_true.1 hw
   rcases (show n = 0 ∨ n = 1 ∨ 2 ≤ n by omega) with h0 | h0 | h0
   ·have HD := Lib.hid (fu_zero (width := width) (f := f) (hn.trans h0))
    have HE := Lib.hid (fun W => emptyRoot_c width W)
    subst h0
    clear hr hn ha hw
    generalize emptyT width = em at *
    go_enter Tryz.func140, Tryz.ntmps140
    go_wp2_with fail
    refine (HE.out _).mono ?_
    rintro e w1 ⟨rfl, hb1⟩
    have HB1 := Lib.hid hb1
    clear hb1
    go_wp2
    go_ret
    exact ⟨by rw [HD.out]; rfl, HB1.out⟩
   ·obtain ⟨b, off, s, rfl, hb, hks, hcl⟩ := hr.str (k := 0) (by omega)
    have HD := Lib.hid (fu_one (width := width) (f := f) (hn.trans h0) hks)
    subst h0
    clear hr hn ha hw hks
    simp only [Nat.add_zero] at hcl
    go_enter Tryz.func140, Tryz.ntmps140
    go_wp2
    go_ret
    exact ⟨by rw [HD.out]; rfl, Below.refl _ _⟩
   ·obtain ⟨b, off, s, rfl, hb, hks, hcl⟩ := hr.str (k := 0) (by omega)
    have HD := Lib.hid (fu_step (width := width) (f := f) hn h0)
    obtain ⟨k1, k2, k3⟩ := halfN_bd h0 h5
    have HHF := Lib.hid (fun W => implHalfOf_c n W h0 h5)
    have hla : (l.take (halfN n)).length = halfN n := by rw [List.length_take]; omega
    have hlb : (l.drop (halfN n)).length = n - halfN n := by rw [List.length_drop, hn]
    have haa := areH_sub ha (fun s hs => List.mem_of_mem_take hs : ∀ s ∈ l.take (halfN n), s ∈ l)
    have hab := areH_sub ha (fun s hs => List.mem_of_mem_drop hs : ∀ s ∈ l.drop (halfN n), s ∈ l)
    have hsa := rootFu_size hw (f := f) (l := l.take (halfN n)) (by omega) (by omega) haa
    have hsb := rootFu_size hw (f := f) (l := l.drop (halfN n)) (by omega) (by omega) hab
    have HR1 : Hid (Rd w 0 w.heap.size (some ⟨b, off, none⟩) (strs (l.take (halfN n)))) := Lib.hid (hr.takeS _).base
    have HR2 : Hid (Rd w 0 w.heap.size (some ⟨b, off + halfN n, none⟩) (strs (l.drop (halfN n)))) := Lib.hid (hr.dropS _).base
    obtain ⟨k, hk⟩ : ∃ k, k = halfN n := ⟨_, rfl⟩
    rw [← hk] at HD HHF hla hlb haa hab hsa hsb HR1 HR2 k1 k2 k3
    have HI1 := Lib.hid (fun W (r : Rd W 0 W.heap.size (some ⟨b, off, none⟩) (strs (l.take k))) => IH.out (some ⟨b, off, none⟩) c 0 W.heap.size k (l.take k) W r hla (by omega) (by omega) (by omega) haa)
    have HI2 := Lib.hid (fun W (r : Rd W 0 W.heap.size (some ⟨b, off + k, none⟩) (strs (l.drop k))) => IH.out (some ⟨b, off + k, none⟩) (c - k) 0 W.heap.size (n - k) (l.drop k) W r hlb (by omega) (by omega) (by omega) hab)
    generalize rootFu width f (l.take k) = ra at *
    generalize rootFu width f (l.drop k) = rb at *
    have HND := Lib.hid (fun W => node_c width ra rb W (by omega) (by omega))
    generalize nodeT width ra rb = nd at *
    have E1 : (k : Int) ≤ (n : Int) := by omega
    have E2 : (k : Int) ≤ (c : Int) := by omega
    have E3 : (n : Int) ≤ (c : Int) := by omega
    have E4 : ¬ (k : Int) = c := by omega
    have E5 : ¬ k = c := by omega
    clear hr hn hf ha hks hcl hk hla hlb haa hab hsa hsb IH hw
    go_enter Tryz.func140, Tryz.ntmps140
    go_wp2_with fail
    refine (HHF.out _).mono ?_
    rintro e w1 ⟨rfl, rfl⟩
    have HL1 := Lib.hid (fun v : Later w => HI1.out v.v (HR1.out.below v.h).base)
    have HL2 := Lib.hid (fun v : Later w => HI2.out v.v (HR2.out.below v.h).base)
    go_wp2
    refine wp_region_later (by kernel_rfl) (by kernel_rfl) ?_
    repeat (go_big_quiet_step ((first | with_reducible exact later_call (HL1.out _) | with_reducible exact later_call (HL2.out _) | with_reducible exact later_call (HND.out _))))
    refine wpQuiet_nil ?_
    intro w4 h4
    have HB4 := Lib.hid (later_below h4)
    clear h4
    go_wp2
    go_ret
    exact ⟨by rw [HD.out]; rfl, HB4.out⟩
set_option maxRecDepth 100000 in
set_option maxHeartbeats 4000000 in
theorem l05Root_c (width : Int) (hw : inR width 1 32 = true) : ∀ (f : Nat) (A : Option Addr) (c lo hi n : Nat) (l : List ByteArray) (w : World), Rd w lo hi A (strs l) → l.length = n → n ≤ 512 → n < f → n ≤ c → areH width l = true →
  Calls Tryz.prog 67 #[.int .i64 width, .slice A n c] w fun e w' => e = .returned (.string (rootFu width f l)) ∧ Below w.heap.size w w'
 | 0, A, c, lo, hi, n, l, w, hr, hn, h5, hf, hc, ha => by omega
 | f + 1, A, c, lo, hi, n, l, w, hr, hn, h5, hf, hc, ha => by
   have IH := Lib.hid (l05Root_c width hw f)
   have hw2 := inR_true.1 hw
   rcases (show n = 0 ∨ n = 1 ∨ 2 ≤ n by omega) with h0 | h0 | h0
   ·have HD := Lib.hid (fu_zero (width := width) (f := f) (hn.trans h0))
    have HE := Lib.hid (fun W => specEmptyRoot_c width W)
    rw [hw] at HE
    subst h0
    clear hr hn ha hw
    generalize emptyT width = em at *
    go_enter Tryz.func67, Tryz.ntmps67
    go_wp2_with fail
    refine (HE.out _).mono ?_
    rintro e w1 ⟨rfl, hb1⟩
    have HB1 := Lib.hid hb1
    clear hb1
    go_wp2
    go_ret
    exact ⟨by rw [HD.out]; rfl, HB1.out⟩
   ·obtain ⟨b, off, s, rfl, hb, hks, hcl⟩ := hr.str (k := 0) (by omega)
    have HD := Lib.hid (fu_one (width := width) (f := f) (hn.trans h0) hks)
    subst h0
    clear hr hn ha hw hks
    simp only [Nat.add_zero] at hcl
    go_enter Tryz.func67, Tryz.ntmps67
    go_wp2
    go_ret
    exact ⟨by rw [HD.out]; rfl, Below.refl _ _⟩
   ·obtain ⟨b, off, s, rfl, hb, hks, hcl⟩ := hr.str (k := 0) (by omega)
    have HD := Lib.hid (fu_step (width := width) (f := f) hn h0)
    obtain ⟨k1, k2, k3⟩ := halfN_bd h0 h5
    have HHF := Lib.hid (fun W => specHalfOf_c n W h0 h5)
    have hla : (l.take (halfN n)).length = halfN n := by rw [List.length_take]; omega
    have hlb : (l.drop (halfN n)).length = n - halfN n := by rw [List.length_drop, hn]
    have haa := areH_sub ha (fun s hs => List.mem_of_mem_take hs : ∀ s ∈ l.take (halfN n), s ∈ l)
    have hab := areH_sub ha (fun s hs => List.mem_of_mem_drop hs : ∀ s ∈ l.drop (halfN n), s ∈ l)
    have hsa := rootFu_size hw (f := f) (l := l.take (halfN n)) (by omega) (by omega) haa
    have hsb := rootFu_size hw (f := f) (l := l.drop (halfN n)) (by omega) (by omega) hab
    have HR1 : Hid (Rd w 0 w.heap.size (some ⟨b, off, none⟩) (strs (l.take (halfN n)))) := Lib.hid (hr.takeS _).base
    have HR2 : Hid (Rd w 0 w.heap.size (some ⟨b, off + halfN n, none⟩) (strs (l.drop (halfN n)))) := Lib.hid (hr.dropS _).base
    obtain ⟨k, hk⟩ : ∃ k, k = halfN n := ⟨_, rfl⟩
    rw [← hk] at HD HHF hla hlb haa hab hsa hsb HR1 HR2 k1 k2 k3
    have HI1 := Lib.hid (fun W (r : Rd W 0 W.heap.size (some ⟨b, off, none⟩) (strs (l.take k))) => IH.out (some ⟨b, off, none⟩) c 0 W.heap.size k (l.take k) W r hla (by omega) (by omega) (by omega) haa)
    have HI2 := Lib.hid (fun W (r : Rd W 0 W.heap.size (some ⟨b, off + k, none⟩) (strs (l.drop k))) => IH.out (some ⟨b, off + k, none⟩) (c - k) 0 W.heap.size (n - k) (l.drop k) W r hlb (by omega) (by omega) (by omega) hab)
    generalize rootFu width f (l.take k) = ra at *
    generalize rootFu width f (l.drop k) = rb at *
    have HND := Lib.hid (fun W => specNodeHash_c width ra rb W hw hsa hsb)
    generalize nodeT width ra rb = nd at *
    have E1 : (k : Int) ≤ (n : Int) := by omega
    have E2 : (k : Int) ≤ (c : Int) := by omega
    have E3 : (n : Int) ≤ (c : Int) := by omega
    have E4 : ¬ (k : Int) = c := by omega
    have E5 : ¬ k = c := by omega
    clear hr hn hf ha hks hcl hk hla hlb haa hab hsa hsb IH hw
    go_enter Tryz.func67, Tryz.ntmps67
    go_wp2_with fail
    refine (HHF.out _).mono ?_
    rintro e w1 ⟨rfl, rfl⟩
    have HL1 := Lib.hid (fun v : Later w => HI1.out v.v (HR1.out.below v.h).base)
    have HL2 := Lib.hid (fun v : Later w => HI2.out v.v (HR2.out.below v.h).base)
    go_wp2
    refine wp_region_later (by kernel_rfl) (by kernel_rfl) ?_
    repeat (go_big_quiet_step ((first | with_reducible exact later_call (HL1.out _) | with_reducible exact later_call (HL2.out _) | with_reducible exact later_call (HND.out _))))
    refine wpQuiet_nil ?_
    intro w4 h4
    have HB4 := Lib.hid (later_below h4)
    clear h4
    go_wp2
    go_ret
    exact ⟨by rw [HD.out]; rfl, HB4.out⟩
def leavesOk (width : Int) (l : List ByteArray) : Bool := inR width 1 32 && decide (l.length ≤ 512) && areH width l
set_option maxRecDepth 100000 in
set_option maxHeartbeats 400000 in
theorem specLeavesOk_c (width : Int) (A : Option Addr) (c lo hi n : Nat) (l : List ByteArray) (w : World) (hr : Rd w lo hi A (strs l)) (hn : l.length = n) (hl : n ≤ 1048576) :
  Calls Tryz.prog 133 #[.int .i64 width, .slice A n c] w fun e w' => e = .returned (.bool (leavesOk width l)) ∧ w = w' := by
 have HDEF : Hid (leavesOk width l = (inR width 1 32 && decide (n ≤ 512) && areH width l)) := Lib.hid (by rw [leavesOk, hn])
 have HA := Lib.hid (fun W (h : Rd W lo hi A (strs l)) => l04Hashes_c width A c lo hi n l W h hn hl)
 have HR := Lib.hid hr
 clear hr hn
 generalize leavesOk width l = lk at *
 generalize areH width l = ah at *
 generalize hq : inR width 1 32 = q at *
 have HQ := Lib.hid hq
 clear hq
 go_enter Tryz.func133, Tryz.ntmps133
 rcases (show n ≤ 512 ∨ 512 < n by omega) with h5 | h5
 ·have HD : Hid (decide (n ≤ 512) = true) := Lib.hid (decide_eq_true h5)
  go_wp2_with fail
  refine (HA.out _ HR.out).mono ?_
  rintro e w1 ⟨rfl, rfl⟩
  go_wp2
  go_ret
  exact ⟨ret_bool (by rw [HDEF.out, HD.out]; cases ah <;> cases q <;> rfl), rfl⟩
 ·have HD : Hid (decide (n ≤ 512) = false) := Lib.hid (decide_eq_false (by omega))
  go_wp2
  go_ret
  exact ⟨ret_bool (by rw [HDEF.out, HD.out]; cases q <;> rfl), rfl⟩
end Go.Proofs.YtmmepogjocfefaaGreat

namespace Go.Proofs.YtmmepogjocfefaaGreat
set_option linter.unusedVariables false
set_option linter.unusedSimpArgs false

/-- the root of 2 ^ j leaves -/
def perf (width : Int) : Nat → List ByteArray → ByteArray
 | 0, l => l.getD 0 ByteArray.empty
 | j + 1, l => nodeT width (perf width j (l.take (2 ^ j))) (perf width j (l.drop (2 ^ j)))
/-- the peaks of fewer than 2 ^ j leaves -/
def pks (width : Int) : Nat → List ByteArray → List ByteArray
 | 0, _ => []
 | j + 1, l => if 2 ^ j ≤ l.length then perf width j (l.take (2 ^ j)) :: pks width j (l.drop (2 ^ j)) else pks width j l
theorem pks_nil (width : Int) : ∀ j, pks width j [] = []
 | 0 => rfl
 | j + 1 => by rw [pks, if_neg (by have := Nat.pow_pos (n := j) (show 0 < 2 by omega); simp)]; exact pks_nil width j
theorem tz_low : ∀ j : Nat, j < 10 → ∀ m : Nat, m < 512 → m + 1 < 2 ^ j → tz (2 ^ j + m) = tz m := by decide +kernel
theorem tz_top : ∀ j : Nat, j < 10 → tz (2 ^ j - 1) = j := by decide +kernel
theorem merge1_cons {width : Int} {p : ByteArray} {q : List ByteArray} (h : 2 ≤ q.length) : merge1 width (p :: q) = p :: merge1 width q := by
 obtain ⟨n, hn⟩ : ∃ n, q.length = n + 2 := ⟨q.length - 2, by omega⟩
 rw [merge1, merge1, List.length_cons, hn]
 simp
theorem mergeK_cons {width : Int} {p : ByteArray} {q : List ByteArray} : ∀ {j : Nat}, j < q.length → mergeK width (p :: q) j = p :: mergeK width q j
 | 0, _ => rfl
 | j + 1, h => by
   rw [mergeK, mergeK_cons (by omega), mergeK]
   exact merge1_cons (by rw [mergeK_len (by omega)]; omega)
theorem pks_grow (width : Int) (x : ByteArray) : ∀ (j : Nat) (l : List ByteArray), j < 10 → l.length < 2 ^ j → tz l.length ≤ (pks width j l).length ∧
  (l.length + 1 < 2 ^ j → mergeK width (pks width j l ++ [x]) (tz l.length) = pks width j (l ++ [x])) ∧
  (l.length + 1 = 2 ^ j → mergeK width (pks width j l ++ [x]) (tz l.length) = [perf width j (l ++ [x])])
 | 0, l, _, h => by
   have : l = [] := List.eq_nil_of_length_eq_zero (by simpa using h)
   subst this
   refine ⟨Nat.zero_le _, fun h => by simp at h, fun _ => rfl⟩
 | j + 1, l, hj, h => by
   have hp : 0 < 2 ^ j := Nat.pow_pos (by omega)
   have hq : 2 ^ j ≤ 2 ^ 8 := Nat.pow_le_pow_right (by omega) (by omega)
   have hs : 2 ^ (j + 1) = 2 * 2 ^ j := by rw [Nat.pow_succ]; omega
   by_cases hl : 2 ^ j ≤ l.length
   ·obtain ⟨a, b, rfl, ha⟩ : ∃ a b, l = a ++ b ∧ a.length = 2 ^ j := ⟨l.take (2 ^ j), l.drop (2 ^ j), (List.take_append_drop _ _).symm, by rw [List.length_take]; omega⟩
    rw [List.length_append] at h hl ⊢
    obtain ⟨i1, i2, i3⟩ := pks_grow width x j b (by omega) (by omega)
    have e1 : pks width (j + 1) (a ++ b) = perf width j a :: pks width j b := by
     rw [pks, if_pos (by rw [List.length_append]; omega), ← ha, List.take_left, List.drop_left]
    have e2 : pks width (j + 1) (a ++ b ++ [x]) = perf width j a :: pks width j (b ++ [x]) := by
     rw [pks, if_pos (by simp; omega), List.append_assoc, ← ha, List.take_left, List.drop_left]
    have hc : mergeK width (perf width j a :: (pks width j b ++ [x])) (tz b.length) = perf width j a :: mergeK width (pks width j b ++ [x]) (tz b.length) := mergeK_cons (by rw [List.length_append]; simp; omega)
    rcases (show b.length + 1 < 2 ^ j ∨ b.length + 1 = 2 ^ j by omega) with hb | hb
    ·have ht : tz (a.length + b.length) = tz b.length := by rw [ha]; exact tz_low j (by omega) _ (by omega) hb
     rw [ht, e1]
     refine ⟨by simp; omega, fun _ => ?_, fun hx => by omega⟩
     rw [e2, List.cons_append, hc, i2 hb]
    ·have ht : tz (a.length + b.length) = tz b.length + 1 := by
      rw [show a.length + b.length = 2 ^ (j + 1) - 1 by omega, show b.length = 2 ^ j - 1 by omega, tz_top _ (by omega), tz_top _ (by omega)]
     rw [ht, e1]
     refine ⟨by simp; omega, fun hx => by omega, fun _ => ?_⟩
     rw [List.cons_append, mergeK, hc, i3 hb, perf, List.append_assoc, ← ha, List.take_left, List.drop_left]
     rfl
   ·obtain ⟨i1, i2, i3⟩ := pks_grow width x j l (by omega) (by omega)
    have e1 : pks width (j + 1) l = pks width j l := by rw [pks, if_neg hl]
    rw [e1]
    refine ⟨i1, fun _ => ?_, fun hx => by omega⟩
    rcases (show l.length + 1 < 2 ^ j ∨ l.length + 1 = 2 ^ j by omega) with hb | hb
    ·rw [i2 hb, pks, if_neg (by simp; omega)]
    ·rw [i3 hb, pks, if_pos (by simp; omega), List.take_of_length_le (by simp; omega), List.drop_of_length_le (by simp; omega), pks_nil]
theorem growUp_pks (width : Int) (L : List ByteArray) : ∀ k : Nat, k ≤ L.length → k < 512 → growUp width 0 [] L k = pks width 9 (L.take k)
 | 0, _, _ => by rw [List.take_zero, pks_nil]; rfl
 | k + 1, hk, h5 => by
   have hg : L[k]? = some (L.getD k ByteArray.empty) := by rw [List.getD_eq_getElem?_getD, List.getElem?_eq_getElem (by omega)]; rfl
   have hlen : (L.take k).length = k := by rw [List.length_take]; omega
   obtain ⟨_, h2, _⟩ := pks_grow width (L.getD k ByteArray.empty) 9 (L.take k) (by omega) (by rw [hlen]; exact (by omega : k < 2 ^ 9))
   rw [growUp, growUp_pks width L k (by omega) (by omega), growOne, Nat.zero_add]
   rw [hlen] at h2
   rw [h2 (show k + 1 < 2 ^ 9 by omega), List.take_add_one, hg]
   rfl
theorem perf_fu {width : Int} : ∀ {j f : Nat} {l : List ByteArray}, j ≤ 9 → l.length = 2 ^ j → l.length < f → perf width j l = rootFu width f l
 | 0, 0, l, _, h, hf => by omega
 | 0, f + 1, l, _, h, hf => by
   rw [fu_one h (s := l.getD 0 ByteArray.empty) (by rw [List.getD_eq_getElem?_getD, List.getElem?_eq_getElem (by rw [h]; exact Nat.one_pos)]; rfl)]; rfl
 | j + 1, 0, l, _, h, hf => by omega
 | j + 1, f + 1, l, hj, h, hf => by
   have hp : 0 < 2 ^ j := Nat.pow_pos (by omega)
   have hq : 2 ^ j ≤ 2 ^ 8 := Nat.pow_le_pow_right (by omega) (by omega)
   have hs : 2 ^ (j + 1) = 2 * 2 ^ j := by rw [Nat.pow_succ]; omega
   rw [fu_step h (by omega), halfN_eq (j := j) (by omega) (by omega) (by omega) (by omega), perf]
   rw [perf_fu (f := f) (by omega) (by rw [List.length_take]; omega) (by rw [List.length_take]; omega), perf_fu (f := f) (by omega) (by rw [List.length_drop]; omega) (by rw [List.length_drop]; omega)]
theorem rootF_cons {width : Int} {p : ByteArray} {q : List ByteArray} : ∀ {j : Nat}, j < q.length → rootF width (p :: q) j = rootF width q j
 | 0, h => by
   obtain ⟨n, hn⟩ : ∃ n, q.length = n + 1 := ⟨q.length - 1, by omega⟩
   rw [rootF, rootF, List.length_cons, hn, Nat.add_sub_cancel, Nat.add_sub_cancel, List.getD_cons_succ]
 | j + 1, h => by
   rw [rootF, rootF, rootF_cons (by omega), List.length_cons, show q.length + 1 - 2 - j = (q.length - 2 - j) + 1 by omega, List.getD_cons_succ]
theorem rngRoot_cons {width : Int} {p : ByteArray} {q : List ByteArray} (h : q ≠ []) : rngRoot width (p :: q) = nodeT width p (rngRoot width q) := by
 obtain ⟨n, hn⟩ : ∃ n, q.length = n + 1 := ⟨q.length - 1, by have := List.length_pos_iff.2 h; omega⟩
 rw [rngRoot, rngRoot, if_neg (by simp), if_neg (by omega), List.length_cons, hn, Nat.add_sub_cancel, rootF, rootF_cons (by omega), Nat.add_sub_cancel, List.length_cons, hn, show n + 1 + 1 - 2 - n = 0 by omega]
 rfl
theorem pks_root {width : Int} : ∀ {j f : Nat} {l : List ByteArray}, j ≤ 9 → l.length < 2 ^ j → l.length < f → l ≠ [] → pks width j l ≠ [] ∧ rngRoot width (pks width j l) = rootFu width f l
 | 0, f, l, _, h, hf, hn => absurd (List.eq_nil_of_length_eq_zero (by simpa using h)) hn
 | j + 1, f, l, hj, h, hf, hn => by
   have hp : 0 < 2 ^ j := Nat.pow_pos (by omega)
   have hq : 2 ^ j ≤ 2 ^ 8 := Nat.pow_le_pow_right (by omega) (by omega)
   have hs : 2 ^ (j + 1) = 2 * 2 ^ j := by rw [Nat.pow_succ]; omega
   by_cases hl : 2 ^ j ≤ l.length
   ·obtain ⟨a, b, rfl, ha⟩ : ∃ a b, l = a ++ b ∧ a.length = 2 ^ j := ⟨l.take (2 ^ j), l.drop (2 ^ j), (List.take_append_drop _ _).symm, by rw [List.length_take]; omega⟩
    have e1 : pks width (j + 1) (a ++ b) = perf width j a :: pks width j b := by
     rw [pks, if_pos (by rw [List.length_append]; omega), ← ha, List.take_left, List.drop_left]
    rw [List.length_append] at h hl hf
    rw [e1]
    refine ⟨List.cons_ne_nil _ _, ?_⟩
    by_cases hb : b = []
    ·subst hb
     rw [pks_nil, List.append_nil]
     rw [← perf_fu (j := j) (by omega) ha (by simp at hf; omega)]
     rfl
    ·have hb1 := List.length_pos_iff.2 hb
     obtain ⟨g, rfl⟩ : ∃ g, f = g + 1 := ⟨f - 1, by omega⟩
     obtain ⟨i1, i2⟩ := pks_root (width := width) (j := j) (f := g) (l := b) (by omega) (by omega) (by omega) hb
     rw [rngRoot_cons i1, i2, fu_step (n := 2 ^ j + b.length) (by rw [List.length_append]; omega) (by omega), halfN_eq (j := j) (by omega) (by omega) (by omega) (by omega)]
     rw [← ha, List.take_left, List.drop_left, perf_fu (j := j) (f := g) (by omega) ha (by omega)]
   ·rw [pks, if_neg hl]
    exact pks_root (by omega) (by omega) hf hn
/-- the root of a range that grew from nothing is the root of the leaves -/
theorem growUp_root {width : Int} {L : List ByteArray} {k : Nat} (hk : k ≤ L.length) (h5 : k ≤ 512) : rngRoot width (growUp width 0 [] L k) = rootFu width 513 (L.take k) := by
 have hlen : (L.take k).length = k := by rw [List.length_take]; omega
 rcases (show k = 0 ∨ (0 < k ∧ k < 512) ∨ k = 512 by omega) with h | h | h
 ·subst h
  rw [List.take_zero, fu_zero rfl]; rfl
 ·rw [growUp_pks width L k hk h.2]
  exact (pks_root (j := 9) (by omega) (by rw [hlen]; exact h.2) (by omega) (fun e => by rw [e] at hlen; simp at hlen; omega)).2
 ·subst h
  have hg : L[511]? = some (L.getD 511 ByteArray.empty) := by rw [List.getD_eq_getElem?_getD, List.getElem?_eq_getElem (by omega)]; rfl
  have h3 := (pks_grow width (L.getD 511 ByteArray.empty) 9 (L.take 511) (by omega) (by rw [List.length_take]; omega)).2.2
  have hl1 : (L.take 511).length = 511 := by rw [List.length_take]; omega
  rw [hl1] at h3
  have ht : L.take 512 = L.take 511 ++ [L.getD 511 ByteArray.empty] := by rw [List.take_add_one (l := L) (i := 511), hg]; rfl
  rw [growUp, growUp_pks width L 511 (by omega) (by omega), growOne, Nat.zero_add, h3 rfl, ← perf_fu (j := 9) (by omega) hlen (by omega), ht]
  rfl
end Go.Proofs.YtmmepogjocfefaaGreat

