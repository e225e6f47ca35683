/- What the laws' own helpers do to a slice of strings. -/
import Derived.Test.YtmmepogjocfefaaGreatRows
import Derived.Test.YtmmepogjocfefaaGreatKit
namespace Go.Proofs.YtmmepogjocfefaaGreat
set_option linter.unusedVariables false
set_option linter.unusedSimpArgs false
open Go.RowKit

set_option maxHeartbeats 400000 in
theorem szStringS_c (A : Option Addr) (c lo hi : Nat) (l : List ByteArray) (left : Int) (w : World) (hr : Rd w lo hi A (strs l)) (hl : l.length ≤ maxLen)
  (hs : ∀ (k : Nat) (s : ByteArray), l[k]? = some s → s.size ≤ maxLen) (h0 : 0 ≤ left) (h1 : left ≤ 1048576) :
  Calls Tryz.prog 132 #[.slice A l.length c, .int .i64 left] w fun e w' => e = .returned (.int .i64 (szF left (l.length + bulkS l))) ∧ w = w' := by
 unfold maxLen at hl
 generalize hn : l.length = n at *
 go_enter Tryz.func132, Tryz.ntmps132
 by_cases hbig : left < n
 ·go_wp2
  go_ret
  exact ⟨ret_int (by unfold szF; rw [if_neg (by omega)]), rfl⟩
 ·go_wp2
  go_loop [1, 5] (fun lf i => ∃ k : Nat, k ≤ n ∧ i = .int .i64 k ∧ lf = .int .i64 (left - n - bulkS (l.take k)) ∧ 0 ≤ left - n - bulkS (l.take k)) (fun _ i => n - (intOf i).toNat)
  case atStart => exact ⟨0, Nat.zero_le _, rfl, by simp [bulkS], by simp [bulkS]; omega⟩
  case round =>
   obtain ⟨k, hk, rfl, rfl, hp⟩ := hrel
   by_cases hlt : k < n
   ·obtain ⟨b, off, s, rfl, hb, hks, hc⟩ := hr.str (k := k) (by omega)
    have hsz := hs k s hks
    unfold maxLen at hsz
    have HB := Lib.hid (bulkS_take hks)
    have HN := Lib.hid hn
    have HL := Lib.hid (bulkS_take_le l (k + 1))
    clear hn hks hs
    go_wp2
    ·go_ret
     have := HB.out
     have := HL.out
     exact ⟨ret_int (by unfold szF; rw [if_neg (by omega)]), rfl⟩
    ·go_round
     case rel => exact ⟨k + 1, by omega, by go_num, by rw [HB.out]; go_num, by rw [HB.out]; omega⟩
     case measure => simp [intOf]; omega
   ·go_wp2
    go_ret
    have hk' : k = n := by omega
    subst hk'
    rw [← hn, List.take_length] at hp
    exact ⟨ret_int (by rw [← hn, List.take_length]; unfold szF; rw [if_pos (by omega)]; omega), rfl⟩

theorem info_string : (Tryz.prog.info? 9).map (fun i => (i.zero, i.size, i.bytes)) = some (some (.string ByteArray.empty), 1, 16) := by kernel_rfl
theorem info_int : (Tryz.prog.info? 3).map (fun i => (i.zero, i.size, i.bytes)) = some (some (.int .i64 0), 1, 8) := by kernel_rfl

/-- the first k of n cells are taken over, the others are as they were -/
theorem set_next {α : Type} {xs ys : List α} {k : Nat} {u : α} (hx : xs[k]? = some u) (hk : k < ys.length) : (xs.take k ++ ys.drop k).set k u = xs.take (k + 1) ++ ys.drop (k + 1) := by
 have hl : (xs.take k).length = k := by rw [List.length_take]; have := (List.getElem?_eq_some_iff.1 hx).1; omega
 rw [List.set_append, if_neg (by omega), hl, Nat.sub_self, take_succ hx, List.append_assoc]
 congr 1
 rw [List.drop_eq_getElem_cons hk]
 rfl

set_option maxHeartbeats 400000 in
theorem toStringS_c (A : Option Addr) (c lo hi : Nat) (l : List ByteArray) (w : World) (hr : Rd w lo hi A (strs l)) (hl : l.length ≤ 1048576) :
  Calls Tryz.prog 137 #[.slice A l.length c] w fun e w' => ∃ A', e = .returned (.slice A' l.length l.length) ∧ Own w' w.heap.size w'.heap.size A' (strs l) ∧ Below w.heap.size w w' := by
 obtain ⟨i0, hi0, hz0, hz1, hz2⟩ := info_parts info_string
 generalize hn : l.length = n at *
 go_enter Tryz.func137, Tryz.ntmps137
 go_wp2_with (at_make; refine wpList_make_full _ rfl _ _ 27 rfl w.heap.size 9 i0 _ 1 Tryz.underlying27 hi0 hz0 hz1 _ _ _ _ n rfl rfl rfl rfl (by rw [hz2]; omega) (by unfold maxLen; omega) (Nat.le_refl _) ?_)
 intro w1 hown hg
 simp only [Nat.mul_one, Value.cells, toList_madeCells_one] at hown
 have hb1 : Below w.heap.size w w1 := (Below.refl _ _).grown hg (Nat.le_refl _) (by simp)
 have hsz : w.heap.size < w1.heap.size := (hown.lt _ rfl).2
 go_wp2
 go_loopw [4] (fun i wr => ∃ k : Nat, k ≤ n ∧ i = .int .i64 k ∧ Below w.heap.size w wr ∧ w.heap.size < wr.heap.size ∧
   wr.ownsRow w.heap.size 9 1 (.slice (some ⟨w.heap.size, 0, none⟩) n n) n ((strs l).take k ++ (List.replicate n (Value.string ByteArray.empty)).drop k)) (fun i _ => n - (intOf i).toNat)
 case atStart => exact ⟨0, Nat.zero_le _, rfl, hb1, hsz, by rw [List.take_zero, List.drop_zero, List.nil_append]; exact hown⟩
 case round =>
  obtain ⟨k, hk, rfl, hbw, hszr, hownr⟩ := hrel
  by_cases hlt : k < n
  ·obtain ⟨b, off, s, rfl, hb, hks, hc⟩ := (hr.below hbw).str (k := k) (by omega)
   have hbb : b < w.heap.size := by
    obtain ⟨b', off', h1, h2, h3, h4, _⟩ := hr (by intro e; rw [List.map_eq_nil_iff.1 e] at hks; simp at hks)
    cases h1; omega
   have hst := hownr.stored k (.string s)
   have HE := Lib.hid (set_next (ys := (List.replicate n (Value.string ByteArray.empty))) (strs_get hks) (by simpa using hlt))
   have hcell : ∃ v, wr.cell? ⟨w.heap.size, k, none⟩ = some v := by
    rw [hownr.cellAt k (by omega)]
    have := hownr.1
    exact ⟨_, List.getElem?_eq_getElem (by omega)⟩
   obtain ⟨v0, hv0⟩ := hcell
   have hfz := hownr.frozenAt k
   have HS := Lib.hid hst
   have HB := Lib.hid hbw
   clear hst hownr hn hks hbw hg hown hb1
   go_wp2
   go_roundw
   case rel => exact ⟨k + 1, by omega, by go_num, HB.out.setCell (Nat.le_refl _) _, by simpa [World.setCell] using hszr, by rw [← HE.out]; exact HS.out.1⟩
   case measure => simp [intOf]; omega
  ·go_wp2
   go_ret
   have hk' : k = n := by omega
   subst hk'
   refine ⟨_, rfl, ?_, hbw⟩
   have ho := Own.of_ownsRow hownr
   have e1 : (strs l).take k = strs l := List.take_of_length_le (by rw [strs_len]; omega)
   have e2 : (List.replicate k (Value.string ByteArray.empty)).drop k = [] := List.drop_eq_nil_of_le (by simp)
   rw [e1, e2, List.append_nil] at ho
   exact ho

/-- text k of the marks: what markText gives -/
def mtLoop : Nat → Nat → ByteArray → ByteArray
 | 0, _, s => s
 | f + 1, k, s => if k = 0 then s else mtLoop f (k / 10) (⟨#[UInt8.ofNat (48 + k % 10)]⟩ ++ s)
def mt (k : Nat) : ByteArray := if k = 0 then ⟨#[109, 48]⟩ else ⟨#[109]⟩ ++ mtLoop 64 k ByteArray.empty

set_option maxHeartbeats 400000 in
theorem eqStringS_c (A A' : Option Addr) (c c' lo hi lo' hi' : Nat) (l : List ByteArray) (w : World) (hr : Rd w lo hi A (strs l)) (hr' : Rd w lo' hi' A' (strs l)) (hl : l.length ≤ maxLen) :
  Calls Tryz.prog 16 #[.slice A l.length c, .slice A' l.length c'] w fun e w' => e = .returned (.bool true) ∧ Below w.heap.size w w' := by
 unfold maxLen at hl
 generalize hn : l.length = n at *
 have HN := Lib.hid hn
 clear hn
 go_enter Tryz.func16, Tryz.ntmps16
 go_wp2
 go_loopw [5] (fun i wr => ∃ k : Nat, k ≤ n ∧ i = .int .i64 k ∧ ∃ m, wr = w.drewN m) (fun i _ => n - (intOf i).toNat)
 case atStart => exact ⟨0, Nat.zero_le _, rfl, 0, rfl⟩
 case round =>
  obtain ⟨k, hk, rfl, m, rfl⟩ := hrel
  by_cases hlt : k < n
  ·obtain ⟨b, off, s, rfl, hb, hks, hc⟩ := hr.str (k := k) (by rw [HN.out]; omega)
   obtain ⟨b', off', s', rfl, hb', hks', hc'⟩ := hr'.str (k := k) (by rw [HN.out]; omega)
   obtain rfl : s = s' := by rw [hks] at hks'; exact Option.some.inj hks'
   clear hks hks' hr hr'
   go_wp2
   go_quiet (fail)
   go_wp2
   go_roundw
   case rel => exact ⟨k + 1, by omega, by go_num, _, rfl⟩
   case measure => simp [intOf]; omega
  ·go_wp2
   go_ret
   exact ⟨rfl, below_drewN (Below.refl _ _) _⟩

set_option maxRecDepth 100000 in
set_option maxHeartbeats 400000 in
theorem markText_c (k : Nat) (x : Int) (w : World) (hx : x = (k : Int)) (hk : k ≤ 100000000) :
  Calls Tryz.prog 56 #[.int .i64 x] w fun e w' => e = .returned (.string (mt k)) ∧ Below w.heap.size w w' := by
 subst hx
 have hcv := fun W x => conv_1 (P := Tryz.prog) 141 5 9 Tryz.underlying141 Tryz.underlying5 Tryz.underlying9 W x
 have hs1 : ∀ x : Int, (strOfNums [x]).size = 1 := fun _ => rfl
 go_enter Tryz.func56, Tryz.ntmps56
 by_cases h0 : k = 0
 ·subst h0
  go_wp2
  go_ret
  exact ⟨rfl, Below.refl _ _⟩
 ·go_wp2
  go_loopw [0, 3] (fun i s wr => ∃ (f j : Nat) (t : ByteArray), j < 2 ^ f ∧ j ≤ k ∧ i = .int .i64 j ∧ s = .string t ∧ t.size + f ≤ 64 ∧ mtLoop f j t = mtLoop 64 k ByteArray.empty ∧ Below w.heap.size w wr) (fun i _ _ => (intOf i).toNat)
  case atStart => exact ⟨64, k, ByteArray.empty, by omega, Nat.le_refl _, rfl, rfl, by decide, rfl, Below.refl _ _⟩
  case round =>
   obtain ⟨f, j, t, hj, hjk, rfl, rfl, ht, he, hb⟩ := hrel
   have HE := Lib.hid he
   have HB := Lib.hid hb
   have HJ := Lib.hid hj
   have ht' : t.size ≤ 64 := by omega
   clear he hb hj
   by_cases hj0 : 0 < j
   ·go_wp2
    go_roundw
    case rel =>
     obtain ⟨g, rfl⟩ : ∃ g, f = g + 1 := by
      rcases Nat.eq_zero_or_pos f with h | h
      ·have := HJ.out; rw [h] at this; omega
      ·exact ⟨f - 1, by omega⟩
     have hj2 := HJ.out
     rw [Nat.pow_succ] at hj2
     refine ⟨g, j / 10, strOfNums [48 + (j : Int) % 10] ++ t, by omega, by omega, by go_num, rfl, by rw [ByteArray.size_append, hs1]; omega, ?_, HB.out.alloc HB.out.size _⟩
     rw [← HE.out]
     conv => rhs; rw [mtLoop, if_neg (show ¬ j = 0 by omega)]
     rfl
    case measure => simp [intOf]; omega
   ·go_wp2
    go_ret
    have hj1 : j = 0 := by omega
    subst hj1
    refine ⟨?_, HB.out⟩
    show Ending.returned (.string (⟨#[109]⟩ ++ t)) = _
    have e : mtLoop f 0 t = t := by cases f <;> simp [mtLoop]
    have e2 := HE.out
    rw [e] at e2
    rw [mt, if_neg h0, ← e2]


/-- n marks, from the k-th on -/
def marks (k n : Nat) : List ByteArray := (List.range n).map fun i => mt (k + i)
theorem marks_len (k n : Nat) : (marks k n).length = n := by simp [marks]
theorem marks_get {k n i : Nat} (h : i < n) : (marks k n)[i]? = some (mt (k + i)) := by simp [marks, h]

set_option maxHeartbeats 400000 in
theorem markStringS_c (A : Option Addr) (c lo hi k0 n : Nat) (x : Int) (xs : List Value) (w : World) (hx : x = (k0 : Int)) (hr : Own w lo hi A xs) (hn : xs.length = n) (hl : k0 + n ≤ 100000000) :
  Calls Tryz.prog 19 #[.slice A n c, .int .i64 x] w fun e w' => e = .returned (.int .i64 (k0 + n : Nat)) ∧ Only lo hi w w' ∧ Own w' lo hi A (strs (marks k0 n)) := by
 subst hx
 have HN := Lib.hid hn
 clear hn
 go_enter Tryz.func19, Tryz.ntmps19
 go_wp2
 go_loopw [1, 5] (fun kk i wr => ∃ i0 : Nat, i0 ≤ n ∧ i = .int .i64 i0 ∧ kk = .int .i64 (k0 + i0 : Nat) ∧ Only lo hi w wr ∧ Own wr lo hi A ((strs (marks k0 n)).take i0 ++ xs.drop i0)) (fun _ i _ => n - (intOf i).toNat)
 case atStart => exact ⟨0, Nat.zero_le _, rfl, rfl, Only.refl _ _ _, by rw [List.take_zero, List.drop_zero, List.nil_append]; exact hr⟩
 case round =>
  obtain ⟨i0, hi0, rfl, rfl, ho, hw⟩ := hrel
  have HO := Lib.hid ho
  clear ho hr
  by_cases hlt : i0 < n
  ·have hlen : ((strs (marks k0 n)).take i0 ++ xs.drop i0).length = n := by
    rw [List.length_append, List.length_take, List.length_drop, strs_len, marks_len, HN.out]; omega
   go_wp2_with fail
   refine (markText_c (k0 + i0) _ _ (by omega) (by omega)).mono ?_
   rintro e w1 ⟨rfl, hb⟩
   have hw1 := hw.below hb
   have ho1 := HO.out.trans (Only.of_below hb)
   obtain ⟨b, off, rfl, h2, h3, h4, hc, hz⟩ := hw1.at_ (j := i0) (by omega)
   obtain ⟨v0, hc0⟩ : ∃ v, w1.cell? ⟨b, off + i0, none⟩ = some v := ⟨_, hc i0 _ (List.getElem?_eq_getElem (by omega))⟩
   have hz0 := hz i0
   have HW := Lib.hid (hw1.set (j := i0) (by omega) (.string (mt (k0 + i0))))
   have HO1 := Lib.hid ho1
   have HE := Lib.hid (set_next (ys := xs) (strs_get (marks_get (k := k0) hlt)) (by rw [HN.out]; exact hlt))
   clear ho1 hc hz hw1 hw hb hlen
   go_wp2
   go_roundw
   case rel => exact ⟨i0 + 1, by omega, by go_num, by go_num, HO1.out.setCell h2 h3 _, by rw [← HE.out]; exact HW.out⟩
   case measure => simp [intOf]; omega
  ·go_wp2
   go_ret
   obtain rfl : i0 = n := by omega
   refine ⟨rfl, HO.out, ?_⟩
   have := hw
   rwa [List.take_of_length_le (by rw [strs_len, marks_len]; exact Nat.le_refl _), List.drop_eq_nil_of_le (by rw [HN.out]; exact Nat.le_refl _), List.append_nil] at this

set_option maxHeartbeats 400000 in
theorem heldStringS_c (A : Option Addr) (c lo hi k0 n : Nat) (x : Int) (w : World) (hx : x = (k0 : Int)) (hr : Rd w lo hi A (strs (marks k0 n))) (hl : k0 + n ≤ 100000000) :
  Calls Tryz.prog 20 #[.slice A n c, .int .i64 x] w fun e w' => e = .returned (.int .i64 (k0 + n : Nat)) ∧ Below w.heap.size w w' := by
 subst hx
 go_enter Tryz.func20, Tryz.ntmps20
 go_wp2
 go_loopw [1, 5] (fun kk i wr => ∃ i0 : Nat, i0 ≤ n ∧ i = .int .i64 i0 ∧ kk = .int .i64 (k0 + i0 : Nat) ∧ Below w.heap.size w wr) (fun _ i _ => n - (intOf i).toNat)
 case atStart => exact ⟨0, Nat.zero_le _, rfl, rfl, Below.refl _ _⟩
 case round =>
  obtain ⟨i0, hi0, rfl, rfl, ho⟩ := hrel
  by_cases hlt : i0 < n
  ·obtain ⟨b, off, s, rfl, hb, hks, hc⟩ := (hr.below ho).str (k := i0) (by rw [marks_len]; exact hlt)
   obtain rfl : mt (k0 + i0) = s := by rw [marks_get hlt] at hks; exact Option.some.inj hks
   have HO := Lib.hid ho
   clear ho hr hks
   go_wp2_with fail
   have hI1 : (0 : Int) ≤ (i0 : Int) := by omega
   have hI2 : (i0 : Int) < (n : Int) := by omega
   have hlc : ∀ (v : Later wr) (o : Nat), v.v.cell? ⟨b, o, none⟩ = wr.cell? ⟨b, o, none⟩ := fun v o => later_cell v b o hb
   refine wp_region_later (by kernel_rfl) (by kernel_rfl) ?_
   repeat (go_big_quiet_step ((exact later_call (markText_c (k0 + i0) _ _ (by omega) (by omega)))))
   refine wpQuiet_nil ?_
   rintro _ ⟨⟨w1, hb1⟩, rfl⟩
   clear hlc
   go_wp2
   go_roundw
   case rel => exact ⟨i0 + 1, by omega, by go_num, by go_num, below_then HO.out hb1 HO.out.size⟩
   case measure => simp [intOf]; omega
  ·go_wp2
   go_ret
   obtain rfl : i0 = n := by omega
   exact ⟨rfl, ho⟩

/- the same in the form that the other slices' helpers have -/
theorem szStringS_c' (A : Option Addr) (c lo hi n : Nat) (l : List ByteArray) (left : Int) (w : World) (hr : Rd w lo hi A (strs l)) (hn : l.length = n) (hl : n ≤ maxLen)
  (hs : ∀ x ∈ l, x.size ≤ maxLen) (h0 : 0 ≤ left) (h1 : left ≤ 1048576) :
  Calls Tryz.prog 132 #[.slice A n c, .int .i64 left] w fun r w' => r = .returned (.int .i64 (szF left (n + bulkS l))) ∧ Below w.heap.size w w' := by
 subst hn
 exact (szStringS_c A c lo hi l left w hr hl (fun k s hk => hs s (List.mem_of_getElem? hk)) h0 h1).mono fun _ _ ⟨h1, h2⟩ => ⟨h1, h2 ▸ Below.refl _ _⟩
theorem toStringS_c' (A : Option Addr) (c lo hi n : Nat) (l : List ByteArray) (w : World) (hr : Rd w lo hi A (strs l)) (hn : l.length = n) (hl : n ≤ 1048576) :
  Calls Tryz.prog 137 #[.slice A n c] w fun r w' => ∃ A', r = .returned (.slice A' n n) ∧ Own w' w.heap.size w'.heap.size A' (strs l) ∧ Below w.heap.size w w' := by
 subst hn
 exact toStringS_c A c lo hi l w hr hl
theorem eqStringS_c' (A A' : Option Addr) (c c' lo hi lo' hi' n n' : Nat) (l : List ByteArray) (w : World) (hr : Rd w lo hi A (strs l)) (hr' : Rd w lo' hi' A' (strs l)) (hn : l.length = n) (hn' : l.length = n') (hl : n ≤ maxLen) :
  Calls Tryz.prog 16 #[.slice A n c, .slice A' n' c'] w fun r w' => r = .returned (.bool true) ∧ Below w.heap.size w w' := by
 subst hn
 subst hn'
 exact eqStringS_c A A' c c' lo hi lo' hi' l w hr hr' hl
end Go.Proofs.YtmmepogjocfefaaGreat
