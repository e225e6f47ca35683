/- Disks: what the laws' helpers do to one, and DiskOk. -/
import Derived.Test.YtjmhebmjlnianaaStr
namespace Go.Proofs.Ytjmhebmjlnianaa
set_option linter.unusedVariables false
set_option linter.unusedSimpArgs false
open Go.RowKit

set_option maxHeartbeats 400000 in
theorem szDisk_c (A : Option Addr) (c lo hi n : Nat) (l : List ByteArray) (left : Int) (w : World) (hr : Rd w lo hi A (strs l)) (hn : l.length = n) (hl : n ≤ maxLen)
    (hs : ∀ (k : Nat) (s : ByteArray), l[k]? = some s → s.size ≤ maxLen) (h0 : 0 ≤ left) (h1 : left ≤ 1048576) :
    Calls Try.prog 25 #[.agg #[.slice A n c], .int .i64 left] w fun e w' => e = .returned (.int .i64 (szF left (n + bulkS l))) ∧ Below w.heap.size w w' := by
  subst hn
  have HS := Lib.hid hs
  clear hs
  go_enter Try.func25, Try.ntmps25
  go_wp2_with fail
  refine (szStringS_c A c lo hi l left _ (hr.alloc _) hl HS.out h0 h1).mono ?_
  rintro e w1 ⟨rfl, rfl⟩
  go_wp2
  · go_ret
    exact ⟨ret_int (szF_neg1 (by omega) (by assumption)).symm, (Below.refl _ _).alloc (Nat.le_refl _) _⟩
  · go_ret
    exact ⟨rfl, (Below.refl _ _).alloc (Nat.le_refl _) _⟩

set_option maxHeartbeats 400000 in
theorem toDisk_c (A : Option Addr) (c lo hi n : Nat) (l : List ByteArray) (w : World) (hr : Rd w lo hi A (strs l)) (hn : l.length = n) (hl : n ≤ 1048576) :
    Calls Try.prog 27 #[.agg #[.slice A n c]] w fun e w' => ∃ A', e = .returned (.agg #[.slice A' n n]) ∧ Own w' w.heap.size w'.heap.size A' (strs l) ∧ Below w.heap.size w w' := by
  subst hn
  go_enter Try.func27, Try.ntmps27
  go_wp2_with fail
  refine (toStringS_c A c lo hi l _ (((hr.alloc _).alloc _).alloc _) hl).mono ?_
  rintro e w1 ⟨A', rfl, ho, hb⟩
  obtain ⟨hc, hf⟩ := bcell hb
  have hz : w.heap.size + 2 < w1.heap.size := by have := hb.size; simp at this; omega
  have HB := Lib.hid hb
  have HO := Lib.hid ho
  clear hb ho
  go_wp2
  refine bodyPost_ret (v := .agg #[.slice A' _ _]) (by simp [results, Try.results27, go_sem, hc, hz]) rfl ⟨A', rfl, ?_, ?_⟩
  · have h3 := HB.out.size
    simp at h3
    exact ((HO.out.setCell (.inl (by first | omega | (simp; done) | (simp; omega))) _).setCell (.inl (by first | omega | (simp; done) | (simp; omega))) _).mono (by first | omega | (simp; done) | (simp; omega)) (by first | omega | (simp [World.setCell]; done) | (simp [World.setCell]; omega)) (by first | omega | (simp [World.setCell]; done) | (simp [World.setCell]; omega))
  · exact (((((Below.refl _ _).alloc (Nat.le_refl _) _).alloc (by first | omega | (simp; done) | (simp; omega)) _).alloc (by first | omega | (simp; done) | (simp; omega)) _).trans (HB.out.mono (by first | omega | (simp; done) | (simp; omega)))).setCell (by first | omega | (simp; done) | (simp; omega)) _ |>.setCell (by first | omega | (simp; done) | (simp; omega)) _

set_option maxRecDepth 100000 in
set_option maxHeartbeats 400000 in
theorem eqDisk_c (A A' : Option Addr) (c c' lo hi lo' hi' n n' : Nat) (l : List ByteArray) (w : World) (hr : Rd w lo hi A (strs l)) (hr' : Rd w lo' hi' A' (strs l)) (hn : l.length = n) (hn' : l.length = n') (hl : n ≤ maxLen) :
    Calls Try.prog 22 #[.agg #[.slice A n c], .agg #[.slice A' n' c']] w fun e w' => e = .returned (.bool true) ∧ Below w.heap.size w w' := by
  subst hn
  subst hn'
  go_enter Try.func22, Try.ntmps22
  go_wp2_with fail
  refine (eqStringS_c A A' _ _ _ _ _ _ l _ ((hr.alloc _).alloc _) ((hr'.alloc _).alloc _) hl).mono ?_
  rintro e w1 ⟨rfl, hb⟩
  have HB := Lib.hid hb
  clear hb
  go_wp2
  go_ret
  exact ⟨rfl, (((Below.refl _ _).alloc (Nat.le_refl _) _).alloc (by first | omega | (simp; done) | (simp; omega)) _).trans (HB.out.mono (by first | omega | (simp; done) | (simp; omega)))⟩

set_option maxRecDepth 100000 in
set_option maxHeartbeats 400000 in
theorem markDisk_c (A : Option Addr) (c lo hi k0 n : Nat) (x : Int) (xs : List Value) (w : World) (hx : x = (k0 : Int)) (hr : Own w lo hi A xs) (hn : xs.length = n) (hl : k0 + n ≤ 100000000) :
    Calls Try.prog 23 #[.agg #[.slice A n c], .int .i64 x] w fun e w' => e = .returned (.int .i64 (k0 + n : Nat)) ∧ Only lo hi w w' ∧ Own w' lo hi A (strs (marks k0 n)) := by
  subst hx
  go_enter Try.func23, Try.ntmps23
  go_wp2_with fail
  refine (markStringS_c A c lo hi k0 n _ xs _ (by omega) (hr.alloc _) hn hl).mono ?_
  rintro e w1 ⟨rfl, ho, hw⟩
  have HO := Lib.hid ho
  have HW := Lib.hid hw
  clear ho hw
  go_wp2
  go_ret
  exact ⟨rfl, ((Only.refl _ _ _).alloc _).trans HO.out, HW.out⟩

set_option maxRecDepth 100000 in
set_option maxHeartbeats 400000 in
theorem heldDisk_c (A : Option Addr) (c lo hi k0 n : Nat) (x : Int) (w : World) (hx : x = (k0 : Int)) (hr : Rd w lo hi A (strs (marks k0 n))) (hl : k0 + n ≤ 100000000) :
    Calls Try.prog 24 #[.agg #[.slice A n c], .int .i64 x] w fun e w' => e = .returned (.int .i64 (k0 + n : Nat)) ∧ Below w.heap.size w w' := by
  subst hx
  go_enter Try.func24, Try.ntmps24
  go_wp2_with fail
  refine (heldStringS_c A c lo hi k0 n _ _ (by omega) (hr.alloc _) hl).mono ?_
  rintro e w1 ⟨rfl, hb⟩
  have HB := Lib.hid hb
  clear hb
  go_wp2
  go_ret
  exact ⟨rfl, ((Below.refl _ _).alloc (Nat.le_refl _) _).trans (HB.out.mono (by first | omega | (simp; done) | (simp; omega)))⟩

/-- DiskOk -/
def filesOk (l : List ByteArray) : Bool := l.all fun s => decide (s.size ≤ 300000)
def diskOk (l : List ByteArray) : Bool := decide (l.length = 3) && filesOk l
theorem filesOk_bad {l : List ByteArray} {k : Nat} {s : ByteArray} (h : l[k]? = some s) (hs : 300000 < s.size) : filesOk l = false := by
  rw [filesOk, List.all_eq_false]
  exact ⟨s, List.mem_of_getElem? h, by simp; omega⟩

set_option maxRecDepth 100000 in
set_option maxHeartbeats 400000 in
theorem implDiskOk_c (A : Option Addr) (c lo hi n : Nat) (l : List ByteArray) (w : World) (hr : Rd w lo hi A (strs l)) (hn : l.length = n) (hl : n ≤ 1048576) :
    Calls Try.prog 28 #[.agg #[.slice A n c]] w fun e w' => e = .returned (.bool (diskOk l)) ∧ Below w.heap.size w w' := by
  have HN := Lib.hid hn
  clear hn
  go_enter Try.func28, Try.ntmps28
  go_wp2
  go_loop [8] (fun i => ∃ k : Nat, k ≤ n ∧ i = .int .i64 k ∧ filesOk (l.take k) = true) (fun i => n - (intOf i).toNat)
  case atStart => exact ⟨0, Nat.zero_le _, rfl, rfl⟩
  case round =>
    obtain ⟨k, hk, rfl, hp⟩ := hrel
    by_cases hlt : k < n
    · obtain ⟨b, off, s, rfl, hb, hks, hc⟩ := hr.str (k := k) (by rw [HN.out]; exact hlt)
      have HK := Lib.hid hks
      have HP := Lib.hid hp
      clear hks hp hr
      go_wp2
      · go_ret
        exact ⟨ret_bool (by rw [diskOk, filesOk_bad HK.out (by omega), Bool.and_false]), (Below.refl _ _).alloc (Nat.le_refl _) _⟩
      · go_round
        case rel => exact ⟨k + 1, by omega, by go_num, by rw [take_succ HK.out, filesOk, List.all_append, ← filesOk, HP.out]; simp; omega⟩
        case measure => simp [intOf]; omega
    · obtain rfl : k = n := by omega
      have HP := Lib.hid hp
      clear hp hr
      go_wp2
      go_ret
      refine ⟨ret_bool ?_, (Below.refl _ _).alloc (Nat.le_refl _) _⟩
      have := HP.out
      rw [← HN.out, List.take_length] at this
      rw [diskOk, this, Bool.and_true, HN.out]
      by_cases h3 : k = 3 <;> simp [h3]
      omega

set_option maxRecDepth 100000 in
set_option maxHeartbeats 400000 in
theorem specDiskOk_c (A : Option Addr) (c lo hi n : Nat) (l : List ByteArray) (w : World) (hr : Rd w lo hi A (strs l)) (hn : l.length = n) (hl : n ≤ 1048576) :
    Calls Try.prog 26 #[.agg #[.slice A n c]] w fun e w' => e = .returned (.bool (diskOk l)) ∧ Below w.heap.size w w' := by
  have HN := Lib.hid hn
  clear hn
  by_cases h3 : n = 3
  · subst h3
    go_enter Try.func26, Try.ntmps26
    go_wp2
    go_loop [3] (fun i => ∃ k : Nat, k ≤ 3 ∧ i = .int .i64 k ∧ filesOk (l.take k) = true) (fun i => 3 - (intOf i).toNat)
    case atStart => exact ⟨0, Nat.zero_le _, rfl, rfl⟩
    case round =>
      obtain ⟨k, hk, rfl, hp⟩ := hrel
      by_cases hlt : k < 3
      · obtain ⟨b, off, s, rfl, hb, hks, hc⟩ := hr.str (k := k) (by rw [HN.out]; exact hlt)
        have HK := Lib.hid hks
        have HP := Lib.hid hp
        clear hks hp hr
        go_wp2
        · go_ret
          exact ⟨ret_bool (by rw [diskOk, filesOk_bad HK.out (by omega), Bool.and_false]), (Below.refl _ _).alloc (Nat.le_refl _) _⟩
        · go_round
          case rel => exact ⟨k + 1, by omega, by go_num, by rw [take_succ HK.out, filesOk, List.all_append, ← filesOk, HP.out]; simp; omega⟩
          case measure => simp [intOf]; omega
      · obtain rfl : k = 3 := by omega
        have HP := Lib.hid hp
        clear hp hr
        go_wp2
        go_ret
        refine ⟨ret_bool ?_, (Below.refl _ _).alloc (Nat.le_refl _) _⟩
        have := HP.out
        rw [← HN.out, List.take_length] at this
        rw [diskOk, this, Bool.and_true, HN.out]
        rfl
  · have hb3 : (((n : Nat) : Int) != 3) = true := by rw [bne_iff_ne]; omega
    go_enter Try.func26, Try.ntmps26
    go_wp2
    go_ret
    exact ⟨ret_bool (by rw [diskOk, HN.out]; simp [h3]), (Below.refl _ _).alloc (Nat.le_refl _) _⟩
end Go.Proofs.Ytjmhebmjlnianaa
