/- Roots of leaves. -/
import Derived.Test.YtojjjhbiccgjkaaHalf
import Derived.Test.YtojjjhbiccgjkaaPks
import Derived.Test.YtojjjhbiccgjkaaLogs
namespace Go.Proofs.Ytojjjhbiccgjkaa
set_option linter.unusedVariables false
set_option linter.unusedSimpArgs false
open Go.RowKit

def rootFu (width : Int) : Nat → List ByteArray → ByteArray
  | 0, _ => ByteArray.empty
  | f + 1, l => if l.length = 0 then emptyT width else if l.length = 1 then l.getD 0 ByteArray.empty else nodeT width (rootFu width f (l.take (halfN l.length))) (rootFu width f (l.drop (halfN l.length)))
theorem areH_sub {width : Int} {l l' : List ByteArray} (h : areH width l = true) (hs : ∀ s ∈ l', s ∈ l) : areH width l' = true := by
  rw [areH, List.all_eq_true]
  intro s hm
  exact decide_eq_true (areH_mem h s (hs s hm))
theorem rootFu_size {width : Int} (hw : inR width 1 32 = true) : ∀ {f : Nat} {l : List ByteArray}, l.length < f → l.length ≤ 512 → areH width l = true → ((rootFu width f l).size : Int) = width
  | 0, l, h, _, _ => by omega
  | f + 1, l, h, h5, ha => by
    rw [rootFu]
    split
    · exact emptyT_size hw
    · split
      · rename_i h0 h1
        refine areH_mem ha _ ?_
        rw [List.getD_eq_getElem?_getD, List.getElem?_eq_getElem (by omega)]
        exact List.getElem_mem (by omega)
      · rename_i h0 h1
        obtain ⟨k1, k2, k3⟩ := halfN_bd (n := l.length) (by omega) h5
        exact nodeT_size hw (rootFu_size hw (by rw [List.length_take]; omega) (by rw [List.length_take]; omega) (areH_sub ha (fun s hs => List.mem_of_mem_take hs)))
          (rootFu_size hw (by rw [List.length_drop]; omega) (by rw [List.length_drop]; omega) (areH_sub ha (fun s hs => List.mem_of_mem_drop hs)))
theorem Rd.takeS {w : World} {lo hi : Nat} {A : Option Addr} {l : List ByteArray} (h : Rd w lo hi A (strs l)) (k : Nat) : Rd w lo hi A (strs (l.take k)) := by
  refine Rd.pre (ys := strs (l.drop k)) ?_
  rw [strs, strs, ← List.map_append, List.take_append_drop]
  exact h
theorem Rd.dropS {w : World} {lo hi b off : Nat} {l : List ByteArray} (h : Rd w lo hi (some ⟨b, off, none⟩) (strs l)) (k : Nat) : Rd w lo hi (some ⟨b, off + k, none⟩) (strs (l.drop k)) := by
  intro hn
  have hne : strs l ≠ [] := by
    intro e
    apply hn
    have : l = [] := List.map_eq_nil_iff.1 e
    rw [this, List.drop_nil]
    rfl
  obtain ⟨b', off', e, h2, h3, h4, h5⟩ := h hne
  cases e
  refine ⟨b, off + k, rfl, h2, h3, h4, fun j u hu => ?_⟩
  have := h5 (k + j) u (by rw [← hu, strs, strs, List.map_drop, List.getElem?_drop])
  rwa [← Nat.add_assoc] at this
theorem fu_step {width : Int} {f n : Nat} {l : List ByteArray} (hn : l.length = n) (h2 : 2 ≤ n) : rootFu width (f + 1) l = nodeT width (rootFu width f (l.take (halfN n))) (rootFu width f (l.drop (halfN n))) := by
  rw [rootFu, if_neg (by omega), if_neg (by omega), hn]
theorem fu_zero {width : Int} {f : Nat} {l : List ByteArray} (hn : l.length = 0) : rootFu width (f + 1) l = emptyT width := by rw [rootFu, if_pos hn]
theorem fu_one {width : Int} {f : Nat} {l : List ByteArray} {s : ByteArray} (hn : l.length = 1) (hs : l[0]? = some s) : rootFu width (f + 1) l = s := by
  rw [rootFu, if_neg (by omega), if_pos hn, List.getD_eq_getElem?_getD, hs]; rfl

set_option maxRecDepth 100000 in
set_option maxHeartbeats 4000000 in
theorem rootOf_c (width : Int) (hw : inR width 1 32 = true) : ∀ (f : Nat) (A : Option Addr) (c lo hi n : Nat) (l : List ByteArray) (w : World), Rd w lo hi A (strs l) → l.length = n → n ≤ 512 → n < f → n ≤ c → areH width l = true →
    Calls Try.prog 206 #[.int .i64 width, .slice A n c] w fun e w' => e = .returned (.string (rootFu width f l)) ∧ Below w.heap.size w w'
  | 0, A, c, lo, hi, n, l, w, hr, hn, h5, hf, hc, ha => by omega
  | f + 1, A, c, lo, hi, n, l, w, hr, hn, h5, hf, hc, ha => by
    have IH := Lib.hid (rootOf_c width hw f)
    have hw2 := inR_true.1 hw
    rcases (show n = 0 ∨ n = 1 ∨ 2 ≤ n by omega) with h0 | h0 | h0
    · have HD := Lib.hid (fu_zero (width := width) (f := f) (hn.trans h0))
      have HE := Lib.hid (fun W => emptyRoot_c width W)
      subst h0
      clear hr hn ha hw
      generalize emptyT width = em at *
      go_enter Try.func206, Try.ntmps206
      go_wp2_with fail
      refine (HE.out _).mono ?_
      rintro e w1 ⟨rfl, hb1⟩
      have HB1 := Lib.hid hb1
      clear hb1
      go_wp2
      go_ret
      exact ⟨by rw [HD.out]; rfl, HB1.out⟩
    · obtain ⟨b, off, s, rfl, hb, hks, hcl⟩ := hr.str (k := 0) (by omega)
      have HD := Lib.hid (fu_one (width := width) (f := f) (hn.trans h0) hks)
      subst h0
      clear hr hn ha hw hks
      simp only [Nat.add_zero] at hcl
      go_enter Try.func206, Try.ntmps206
      go_wp2
      go_ret
      exact ⟨by rw [HD.out]; rfl, Below.refl _ _⟩
    · obtain ⟨b, off, s, rfl, hb, hks, hcl⟩ := hr.str (k := 0) (by omega)
      have HD := Lib.hid (fu_step (width := width) (f := f) hn h0)
      obtain ⟨k1, k2, k3⟩ := halfN_bd h0 h5
      have HHF := Lib.hid (fun W => implHalfOf_c n W h0 h5)
      have hla : (l.take (halfN n)).length = halfN n := by rw [List.length_take]; omega
      have hlb : (l.drop (halfN n)).length = n - halfN n := by rw [List.length_drop, hn]
      have haa := areH_sub ha (fun s hs => List.mem_of_mem_take hs : ∀ s ∈ l.take (halfN n), s ∈ l)
      have hab := areH_sub ha (fun s hs => List.mem_of_mem_drop hs : ∀ s ∈ l.drop (halfN n), s ∈ l)
      have hsa := rootFu_size hw (f := f) (l := l.take (halfN n)) (by omega) (by omega) haa
      have hsb := rootFu_size hw (f := f) (l := l.drop (halfN n)) (by omega) (by omega) hab
      have HR1 : Hid (Rd w 0 w.heap.size (some ⟨b, off, none⟩) (strs (l.take (halfN n)))) := Lib.hid (hr.takeS _).base
      have HR2 : Hid (Rd w 0 w.heap.size (some ⟨b, off + halfN n, none⟩) (strs (l.drop (halfN n)))) := Lib.hid (hr.dropS _).base
      obtain ⟨k, hk⟩ : ∃ k, k = halfN n := ⟨_, rfl⟩
      rw [← hk] at HD HHF hla hlb haa hab hsa hsb HR1 HR2 k1 k2 k3
      have HI1 := Lib.hid (fun W (r : Rd W 0 W.heap.size (some ⟨b, off, none⟩) (strs (l.take k))) => IH.out (some ⟨b, off, none⟩) c 0 W.heap.size k (l.take k) W r hla (by omega) (by omega) (by omega) haa)
      have HI2 := Lib.hid (fun W (r : Rd W 0 W.heap.size (some ⟨b, off + k, none⟩) (strs (l.drop k))) => IH.out (some ⟨b, off + k, none⟩) (c - k) 0 W.heap.size (n - k) (l.drop k) W r hlb (by omega) (by omega) (by omega) hab)
      generalize rootFu width f (l.take k) = ra at *
      generalize rootFu width f (l.drop k) = rb at *
      have HND := Lib.hid (fun W => node_c width ra rb W (by omega) (by omega))
      generalize nodeT width ra rb = nd at *
      have E1 : (k : Int) ≤ (n : Int) := by omega
      have E2 : (k : Int) ≤ (c : Int) := by omega
      have E3 : (n : Int) ≤ (c : Int) := by omega
      have E4 : ¬ (k : Int) = c := by omega
      have E5 : ¬ k = c := by omega
      clear hr hn hf ha hks hcl hk hla hlb haa hab hsa hsb IH hw
      go_enter Try.func206, Try.ntmps206
      go_wp2_with fail
      refine (HHF.out _).mono ?_
      rintro e w1 ⟨rfl, rfl⟩
      have HL1 := Lib.hid (fun v : Later w => HI1.out v.v (HR1.out.below v.h).base)
      have HL2 := Lib.hid (fun v : Later w => HI2.out v.v (HR2.out.below v.h).base)
      go_wp2
      refine wp_region_later (by kernel_rfl) (by kernel_rfl) ?_
      repeat (go_big_quiet_step ((first | with_reducible exact later_call (HL1.out _) | with_reducible exact later_call (HL2.out _) | with_reducible exact later_call (HND.out _))))
      refine wpQuiet_nil ?_
      intro w4 h4
      have HB4 := Lib.hid (later_below h4)
      clear h4
      go_wp2
      go_ret
      exact ⟨by rw [HD.out]; rfl, HB4.out⟩
set_option maxRecDepth 100000 in
set_option maxHeartbeats 4000000 in
theorem l05Root_c (width : Int) (hw : inR width 1 32 = true) : ∀ (f : Nat) (A : Option Addr) (c lo hi n : Nat) (l : List ByteArray) (w : World), Rd w lo hi A (strs l) → l.length = n → n ≤ 512 → n < f → n ≤ c → areH width l = true →
    Calls Try.prog 180 #[.int .i64 width, .slice A n c] w fun e w' => e = .returned (.string (rootFu width f l)) ∧ Below w.heap.size w w'
  | 0, A, c, lo, hi, n, l, w, hr, hn, h5, hf, hc, ha => by omega
  | f + 1, A, c, lo, hi, n, l, w, hr, hn, h5, hf, hc, ha => by
    have IH := Lib.hid (l05Root_c width hw f)
    have hw2 := inR_true.1 hw
    rcases (show n = 0 ∨ n = 1 ∨ 2 ≤ n by omega) with h0 | h0 | h0
    · have HD := Lib.hid (fu_zero (width := width) (f := f) (hn.trans h0))
      have HE := Lib.hid (fun W => specEmptyRoot_c width W)
      rw [hw] at HE
      subst h0
      clear hr hn ha hw
      generalize emptyT width = em at *
      go_enter Try.func180, Try.ntmps180
      go_wp2_with fail
      refine (HE.out _).mono ?_
      rintro e w1 ⟨rfl, hb1⟩
      have HB1 := Lib.hid hb1
      clear hb1
      go_wp2
      go_ret
      exact ⟨by rw [HD.out]; rfl, HB1.out⟩
    · obtain ⟨b, off, s, rfl, hb, hks, hcl⟩ := hr.str (k := 0) (by omega)
      have HD := Lib.hid (fu_one (width := width) (f := f) (hn.trans h0) hks)
      subst h0
      clear hr hn ha hw hks
      simp only [Nat.add_zero] at hcl
      go_enter Try.func180, Try.ntmps180
      go_wp2
      go_ret
      exact ⟨by rw [HD.out]; rfl, Below.refl _ _⟩
    · obtain ⟨b, off, s, rfl, hb, hks, hcl⟩ := hr.str (k := 0) (by omega)
      have HD := Lib.hid (fu_step (width := width) (f := f) hn h0)
      obtain ⟨k1, k2, k3⟩ := halfN_bd h0 h5
      have HHF := Lib.hid (fun W => specHalfOf_c n W h0 h5)
      have hla : (l.take (halfN n)).length = halfN n := by rw [List.length_take]; omega
      have hlb : (l.drop (halfN n)).length = n - halfN n := by rw [List.length_drop, hn]
      have haa := areH_sub ha (fun s hs => List.mem_of_mem_take hs : ∀ s ∈ l.take (halfN n), s ∈ l)
      have hab := areH_sub ha (fun s hs => List.mem_of_mem_drop hs : ∀ s ∈ l.drop (halfN n), s ∈ l)
      have hsa := rootFu_size hw (f := f) (l := l.take (halfN n)) (by omega) (by omega) haa
      have hsb := rootFu_size hw (f := f) (l := l.drop (halfN n)) (by omega) (by omega) hab
      have HR1 : Hid (Rd w 0 w.heap.size (some ⟨b, off, none⟩) (strs (l.take (halfN n)))) := Lib.hid (hr.takeS _).base
      have HR2 : Hid (Rd w 0 w.heap.size (some ⟨b, off + halfN n, none⟩) (strs (l.drop (halfN n)))) := Lib.hid (hr.dropS _).base
      obtain ⟨k, hk⟩ : ∃ k, k = halfN n := ⟨_, rfl⟩
      rw [← hk] at HD HHF hla hlb haa hab hsa hsb HR1 HR2 k1 k2 k3
      have HI1 := Lib.hid (fun W (r : Rd W 0 W.heap.size (some ⟨b, off, none⟩) (strs (l.take k))) => IH.out (some ⟨b, off, none⟩) c 0 W.heap.size k (l.take k) W r hla (by omega) (by omega) (by omega) haa)
      have HI2 := Lib.hid (fun W (r : Rd W 0 W.heap.size (some ⟨b, off + k, none⟩) (strs (l.drop k))) => IH.out (some ⟨b, off + k, none⟩) (c - k) 0 W.heap.size (n - k) (l.drop k) W r hlb (by omega) (by omega) (by omega) hab)
      generalize rootFu width f (l.take k) = ra at *
      generalize rootFu width f (l.drop k) = rb at *
      have HND := Lib.hid (fun W => specNodeHash_c width ra rb W hw hsa hsb)
      generalize nodeT width ra rb = nd at *
      have E1 : (k : Int) ≤ (n : Int) := by omega
      have E2 : (k : Int) ≤ (c : Int) := by omega
      have E3 : (n : Int) ≤ (c : Int) := by omega
      have E4 : ¬ (k : Int) = c := by omega
      have E5 : ¬ k = c := by omega
      clear hr hn hf ha hks hcl hk hla hlb haa hab hsa hsb IH hw
      go_enter Try.func180, Try.ntmps180
      go_wp2_with fail
      refine (HHF.out _).mono ?_
      rintro e w1 ⟨rfl, rfl⟩
      have HL1 := Lib.hid (fun v : Later w => HI1.out v.v (HR1.out.below v.h).base)
      have HL2 := Lib.hid (fun v : Later w => HI2.out v.v (HR2.out.below v.h).base)
      go_wp2
      refine wp_region_later (by kernel_rfl) (by kernel_rfl) ?_
      repeat (go_big_quiet_step ((first | with_reducible exact later_call (HL1.out _) | with_reducible exact later_call (HL2.out _) | with_reducible exact later_call (HND.out _))))
      refine wpQuiet_nil ?_
      intro w4 h4
      have HB4 := Lib.hid (later_below h4)
      clear h4
      go_wp2
      go_ret
      exact ⟨by rw [HD.out]; rfl, HB4.out⟩
def leavesOk (width : Int) (l : List ByteArray) : Bool := inR width 1 32 && decide (l.length ≤ 512) && areH width l
set_option maxRecDepth 100000 in
set_option maxHeartbeats 400000 in
theorem implLeavesOk_c (width : Int) (A : Option Addr) (c lo hi n : Nat) (l : List ByteArray) (w : World) (hr : Rd w lo hi A (strs l)) (hn : l.length = n) (hl : n ≤ 1048576) :
    Calls Try.prog 134 #[.int .i64 width, .slice A n c] w fun e w' => e = .returned (.bool (leavesOk width l)) ∧ w = w' := by
  have HDEF : Hid (leavesOk width l = (inR width 1 32 && decide (n ≤ 512) && areH width l)) := Lib.hid (by rw [leavesOk, hn])
  have HA := Lib.hid (fun W (h : Rd W lo hi A (strs l)) => areHashes_c width A c lo hi n l W h hn hl)
  have HR := Lib.hid hr
  clear hr hn
  generalize leavesOk width l = lk at *
  generalize areH width l = ah at *
  generalize hq : inR width 1 32 = q at *
  have HQ := Lib.hid hq
  clear hq
  go_enter Try.func134, Try.ntmps134
  go_wp2_with fail
  refine (isWidth_c width _).mono ?_
  rintro e w1 ⟨rfl, rfl⟩
  rw [HQ.out]
  rcases q with _ | _
  · go_wp2
    go_ret
    exact ⟨ret_bool (by rw [HDEF.out]; rfl), rfl⟩
  · rcases (show n ≤ 512 ∨ 512 < n by omega) with h5 | h5
    · have HD : Hid (decide (n ≤ 512) = true) := Lib.hid (decide_eq_true h5)
      go_wp2_with fail
      refine (HA.out _ HR.out).mono ?_
      rintro e w1 ⟨rfl, rfl⟩
      go_wp2
      go_ret
      exact ⟨ret_bool (by rw [HDEF.out, HD.out]; rfl), rfl⟩
    · have HD : Hid (decide (n ≤ 512) = false) := Lib.hid (decide_eq_false (by omega))
      go_wp2
      go_ret
      exact ⟨ret_bool (by rw [HDEF.out, HD.out]; rfl), rfl⟩
set_option maxRecDepth 100000 in
set_option maxHeartbeats 400000 in
theorem specLeavesOk_c (width : Int) (A : Option Addr) (c lo hi n : Nat) (l : List ByteArray) (w : World) (hr : Rd w lo hi A (strs l)) (hn : l.length = n) (hl : n ≤ 1048576) :
    Calls Try.prog 132 #[.int .i64 width, .slice A n c] w fun e w' => e = .returned (.bool (leavesOk width l)) ∧ w = w' := by
  have HDEF : Hid (leavesOk width l = (inR width 1 32 && decide (n ≤ 512) && areH width l)) := Lib.hid (by rw [leavesOk, hn])
  have HA := Lib.hid (fun W (h : Rd W lo hi A (strs l)) => l04Hashes_c width A c lo hi n l W h hn hl)
  have HR := Lib.hid hr
  clear hr hn
  generalize leavesOk width l = lk at *
  generalize areH width l = ah at *
  generalize hq : inR width 1 32 = q at *
  have HQ := Lib.hid hq
  clear hq
  go_enter Try.func132, Try.ntmps132
  rcases (show n ≤ 512 ∨ 512 < n by omega) with h5 | h5
  · have HD : Hid (decide (n ≤ 512) = true) := Lib.hid (decide_eq_true h5)
    go_wp2_with fail
    refine (HA.out _ HR.out).mono ?_
    rintro e w1 ⟨rfl, rfl⟩
    go_wp2
    go_ret
    exact ⟨ret_bool (by rw [HDEF.out, HD.out]; cases ah <;> cases q <;> rfl), rfl⟩
  · have HD : Hid (decide (n ≤ 512) = false) := Lib.hid (decide_eq_false (by omega))
    go_wp2
    go_ret
    exact ⟨ret_bool (by rw [HDEF.out, HD.out]; cases q <;> rfl), rfl⟩
end Go.Proofs.Ytojjjhbiccgjkaa
