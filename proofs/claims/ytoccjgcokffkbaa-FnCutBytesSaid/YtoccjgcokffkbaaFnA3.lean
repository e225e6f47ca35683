/- Disks: DiskOk, WriteOk. -/
import Derived.Test.YtoccjgcokffkbaaEntry
import Derived.Test.YtoccjgcokffkbaaFnA2
namespace Go.Proofs.Ytoccjgcokffkbaa
set_option linter.unusedVariables false
set_option linter.unusedSimpArgs false
open Go.RowKit

/-- DiskOk -/
def filesOk (l : List ByteArray) : Bool := l.all fun s => decide (s.size ≤ 300000)
def diskOk (l : List ByteArray) : Bool := decide (l.length = 3) && filesOk l
theorem filesOk_bad {l : List ByteArray} {k : Nat} {s : ByteArray} (h : l[k]? = some s) (hs : 300000 < s.size) : filesOk l = false := by
 rw [filesOk, List.all_eq_false]
 exact ⟨s, List.mem_of_getElem? h, by simp; omega⟩

set_option maxRecDepth 100000 in
set_option maxHeartbeats 400000 in
theorem implDiskOk_c (A : Option Addr) (c lo hi n : Nat) (l : List ByteArray) (w : World) (hr : Rd w lo hi A (strs l)) (hn : l.length = n) (hl : n ≤ 1048576) :
  Calls Try.prog 37 #[.agg #[.slice A n c]] w fun e w' => e = .returned (.bool (diskOk l)) ∧ Below w.heap.size w w' := by
 have HN := Lib.hid hn
 clear hn
 go_enter Try.func37, Try.ntmps37
 go_wp2
 go_loop [8] (fun i => ∃ k : Nat, k ≤ n ∧ i = .int .i64 k ∧ filesOk (l.take k) = true) (fun i => n - (intOf i).toNat)
 case atStart => exact ⟨0, Nat.zero_le _, rfl, rfl⟩
 case round =>
  obtain ⟨k, hk, rfl, hp⟩ := hrel
  by_cases hlt : k < n
  ·obtain ⟨b, off, s, rfl, hb, hks, hc⟩ := hr.str (k := k) (by rw [HN.out]; exact hlt)
   have HK := Lib.hid hks
   have HP := Lib.hid hp
   clear hks hp hr
   go_wp2
   ·go_ret
    exact ⟨ret_bool (by rw [diskOk, filesOk_bad HK.out (by omega), Bool.and_false]), (Below.refl _ _).alloc (Nat.le_refl _) _⟩
   ·go_round
    case rel => exact ⟨k + 1, by omega, by go_num, by rw [take_succ HK.out, filesOk, List.all_append, ← filesOk, HP.out]; simp; omega⟩
    case measure => simp [intOf]; omega
  ·obtain rfl : k = n := by omega
   have HP := Lib.hid hp
   clear hp hr
   go_wp2
   go_ret
   refine ⟨ret_bool ?_, (Below.refl _ _).alloc (Nat.le_refl _) _⟩
   have := HP.out
   rw [← HN.out, List.take_length] at this
   rw [diskOk, this, Bool.and_true, HN.out]
   by_cases h3 : k = 3 <;> simp [h3]
   omega

set_option maxRecDepth 100000 in
set_option maxHeartbeats 400000 in
theorem specDiskOk_c (A : Option Addr) (c lo hi n : Nat) (l : List ByteArray) (w : World) (hr : Rd w lo hi A (strs l)) (hn : l.length = n) (hl : n ≤ 1048576) :
  Calls Try.prog 103 #[.agg #[.slice A n c]] w fun e w' => e = .returned (.bool (diskOk l)) ∧ Below w.heap.size w w' := by
 have HN := Lib.hid hn
 clear hn
 by_cases h3 : n = 3
 ·subst h3
  go_enter Try.func103, Try.ntmps103
  go_wp2
  go_loop [3] (fun i => ∃ k : Nat, k ≤ 3 ∧ i = .int .i64 k ∧ filesOk (l.take k) = true) (fun i => 3 - (intOf i).toNat)
  case atStart => exact ⟨0, Nat.zero_le _, rfl, rfl⟩
  case round =>
   obtain ⟨k, hk, rfl, hp⟩ := hrel
   by_cases hlt : k < 3
   ·obtain ⟨b, off, s, rfl, hb, hks, hc⟩ := hr.str (k := k) (by rw [HN.out]; exact hlt)
    have HK := Lib.hid hks
    have HP := Lib.hid hp
    clear hks hp hr
    go_wp2
    ·go_ret
     exact ⟨ret_bool (by rw [diskOk, filesOk_bad HK.out (by omega), Bool.and_false]), (Below.refl _ _).alloc (Nat.le_refl _) _⟩
    ·go_round
     case rel => exact ⟨k + 1, by omega, by go_num, by rw [take_succ HK.out, filesOk, List.all_append, ← filesOk, HP.out]; simp; omega⟩
     case measure => simp [intOf]; omega
   ·obtain rfl : k = 3 := by omega
    have HP := Lib.hid hp
    clear hp hr
    go_wp2
    go_ret
    refine ⟨ret_bool ?_, (Below.refl _ _).alloc (Nat.le_refl _) _⟩
    have := HP.out
    rw [← HN.out, List.take_length] at this
    rw [diskOk, this, Bool.and_true, HN.out]
    rfl
 ·have hb3 : (((n : Nat) : Int) != 3) = true := by rw [bne_iff_ne]; omega
  go_enter Try.func103, Try.ntmps103
  go_wp2
  go_ret
  exact ⟨ret_bool (by rw [diskOk, HN.out]; simp [h3]), (Below.refl _ _).alloc (Nat.le_refl _) _⟩
/-- WriteOk -/
def fitsD (l : List ByteArray) (x : Wri) : Bool :=
 inR x.file 0 (l.length - 1) && (inR x.pos 0 ((l.getD x.file.toNat ByteArray.empty).size : Nat) && decide ((x.text.size : Int) ≤ 300000 - x.pos))
def writeOk (l : List ByteArray) (x : Wri) : Bool := diskOk l && fitsD l x

theorem fitsD_bad {l : List ByteArray} {x : Wri} (h : inR x.file 0 (l.length - 1) = false) : fitsD l x = false := by rw [fitsD, h]; rfl
theorem fitsD_bad2 {l : List ByteArray} {x : Wri} {k : Nat} {s : ByteArray} (hf : x.file = k) (hs : l[k]? = some s) (h : inR x.pos 0 (s.size : Nat) = false) : fitsD l x = false := by
 have e : l.getD x.file.toNat ByteArray.empty = s := by rw [hf]; simp [List.getD, hs]
 rw [fitsD, e, h, Bool.false_and, Bool.and_false]
theorem fitsD_good {l : List ByteArray} {x : Wri} {k : Nat} {s : ByteArray} (hf : x.file = k) (hs : l[k]? = some s) (h : inR x.pos 0 (s.size : Nat) = true) : fitsD l x = decide ((x.text.size : Int) ≤ 300000 - x.pos) := by
 have hk : k < l.length := (List.getElem?_eq_some_iff.1 hs).1
 have e : l.getD x.file.toNat ByteArray.empty = s := by rw [hf]; simp [List.getD, hs]
 have h0 : inR x.file 0 (l.length - 1) = true := by rw [inR_true]; omega
 rw [fitsD, e, h, h0, Bool.true_and, Bool.true_and]

set_option maxRecDepth 100000 in
set_option maxHeartbeats 400000 in
theorem fits_c (A : Option Addr) (c lo hi n : Nat) (l : List ByteArray) (x : Wri) (w : World) (hr : Rd w lo hi A (strs l)) (hn : l.length = n) (hl : n ≤ 1048576) (hf : x.fits) (hs : ∀ s ∈ l, s.size ≤ 300000) :
  Calls Try.prog 39 #[.agg #[.slice A n c], .agg #[.int .i64 x.file, .int .i64 x.pos, .string x.text]] w fun e w' => e = .returned (.bool (fitsD l x)) ∧ Below w.heap.size w w' := by
 obtain ⟨file, pos, text⟩ := x
 obtain ⟨⟨hf1, hf2⟩, ⟨hp1, hp2⟩, ht⟩ := hf
 simp only at hf1 hf2 hp1 hp2 ht
 simp only [maxLen] at ht
 have HN := Lib.hid hn
 clear hn
 have HB0 : ∀ c1 t1 c2 t2, Below w.heap.size w ((w.alloc (.cells c1 t1)).alloc (.cells c2 t2)) := fun c1 t1 c2 t2 => (((Below.refl _ _).alloc (Nat.le_refl _) _).alloc (by first | omega | (simp; done) | (simp; omega)) _)
 have hla : ∀ v : Later ((w.alloc (.cells #[.slice A n c] 26)).alloc (.cells #[.int .i64 file, .int .i64 pos, .string text] 33)), v.v.cell? ⟨w.heap.size, 0, none⟩ = some (.slice A n c) := fun v => (later_cell v _ _ (by first | omega | (simp; done) | (simp; omega))).trans (by go_simp)
 have hlb : ∀ v : Later ((w.alloc (.cells #[.slice A n c] 26)).alloc (.cells #[.int .i64 file, .int .i64 pos, .string text] 33)), v.v.cell? ⟨w.heap.size + 1, 0, none⟩ = some (.int .i64 file) := fun v => (later_cell v _ _ (by simp)).trans (by go_simp)
 have hlp : ∀ v : Later ((w.alloc (.cells #[.slice A n c] 26)).alloc (.cells #[.int .i64 file, .int .i64 pos, .string text] 33)), v.v.cell? ⟨w.heap.size + 1, 1, none⟩ = some (.int .i64 pos) := fun v => (later_cell v _ _ (by simp)).trans (by go_simp)
 rcases h1 : inR file 0 (n - 1) with _ | _
 ·have H1 := Lib.hid h1
  clear hr hs h1
  go_enter Try.func39, Try.ntmps39
  go_wp2_with fail
  refine wp_region_later (by kernel_rfl) (by kernel_rfl) ?_
  repeat (go_big_quiet_step ((exact later_pure (inRange_c _ _ _ _) (bool_v H1.out))))
  refine wpQuiet_nil ?_
  intro w1 h0
  have hb1 := later_below h0
  clear hla hlb hlp h0
  go_wp2
  go_ret
  exact ⟨ret_bool (fitsD_bad (by rw [HN.out]; exact H1.out)).symm, below_then (HB0 _ _ _ _) hb1 (by first | omega | (simp; done) | (simp; omega))⟩
 ·have hk := inR_true.1 h1
  obtain ⟨k, rfl⟩ : ∃ k : Nat, file = k := ⟨file.toNat, by omega⟩
  obtain ⟨b, off, s, rfl, hb, hks, hc⟩ := hr.str (k := k) (by rw [HN.out]; omega)
  have hls : ∀ v : Later ((w.alloc (.cells #[.slice (some ⟨b, off, none⟩) n c] 26)).alloc (.cells #[.int .i64 k, .int .i64 pos, .string text] 33)), v.v.cell? ⟨b, off + k, none⟩ = some (.string s) := fun v => (later_cell v _ _ (by first | omega | (simp; done) | (simp; omega))).trans (by first | (go_simp; done) | (go_simp; exact hc))
  have hss := hs s (List.mem_of_getElem? hks)
  have hI1 : (0 : Int) ≤ (k : Int) := by omega
  have hI2 : (k : Int) < (n : Int) := by omega
  have H1 := Lib.hid h1
  have HK := Lib.hid hks
  clear hr hs h1 hks hc hk
  rcases h2 : inR pos 0 (s.size : Nat) with _ | _
  ·have H2 := Lib.hid h2
   clear h2
   go_enter Try.func39, Try.ntmps39
   go_wp2_with fail
   refine wp_region_later (by kernel_rfl) (by kernel_rfl) ?_
   repeat (go_big_quiet_step ((first | exact later_pure (inRange_c _ _ _ _) (bool_v H1.out) | exact later_pure (inRange_c _ _ _ _) (bool_v H2.out))))
   refine wpQuiet_nil ?_
   intro w1 h0
   have hb1 := later_below h0
   clear hla hlb hlp hls h0
   go_wp2
   go_ret
   exact ⟨ret_bool (fitsD_bad2 rfl HK.out H2.out).symm, below_then (HB0 _ _ _ _) hb1 (by first | omega | (simp; done) | (simp; omega))⟩
  ·have H2 := Lib.hid h2
   have hq := inR_true.1 h2
   clear h2
   go_enter Try.func39, Try.ntmps39
   go_wp2_with fail
   refine wp_region_later (by kernel_rfl) (by kernel_rfl) ?_
   repeat (go_big_quiet_step ((first | exact later_pure (inRange_c _ _ _ _) (bool_v H1.out) | exact later_pure (inRange_c _ _ _ _) (bool_v H2.out))))
   refine wpQuiet_nil ?_
   intro w1 h0
   have hb1 := later_below h0
   have hx1 : w1.cell? ⟨w.heap.size + 1, 1, none⟩ = some (.int .i64 pos) := (hb1.cell (p := ⟨w.heap.size + 1, 1, none⟩) (by simp)).trans (by go_simp)
   have hx2 : w1.cell? ⟨w.heap.size + 1, 2, none⟩ = some (.string text) := (hb1.cell (p := ⟨w.heap.size + 1, 2, none⟩) (by simp)).trans (by go_simp)
   have HB1 := Lib.hid hb1
   clear hla hlb hlp hls h0 hb1
   go_wp2
   go_ret
   exact ⟨ret_bool (fitsD_good (x := ⟨_, pos, text⟩) rfl HK.out H2.out).symm, below_then (HB0 _ _ _ _) HB1.out (by first | omega | (simp; done) | (simp; omega))⟩

theorem diskOk_len {l : List ByteArray} (h : diskOk l = true) : l.length = 3 := by
 rw [diskOk, Bool.and_eq_true] at h; simpa using h.1
theorem diskOk_all {l : List ByteArray} (h : diskOk l = true) : ∀ s ∈ l, s.size ≤ 300000 := by
 rw [diskOk, Bool.and_eq_true, filesOk, List.all_eq_true] at h
 intro s hs; simpa using h.2 s hs

set_option maxRecDepth 100000 in
set_option maxHeartbeats 400000 in
theorem implWriteOk_c (A : Option Addr) (c lo hi n : Nat) (l : List ByteArray) (x : Wri) (w : World) (hr : Rd w lo hi A (strs l)) (hn : l.length = n) (hl : n ≤ 1048576) (hf : x.fits) :
  Calls Try.prog 75 #[.agg #[.slice A n c], .agg #[.int .i64 x.file, .int .i64 x.pos, .string x.text]] w fun e w' => e = .returned (.bool (writeOk l x)) ∧ Below w.heap.size w w' := by
 have HF := Lib.hid hf
 obtain ⟨file, pos, text⟩ := x
 clear hf
 go_enter Try.func75, Try.ntmps75
 go_wp2_with fail
 refine (implDiskOk_c A _ _ _ n l _ ((hr.alloc _).alloc _) hn hl).mono ?_
 rintro e w1 ⟨rfl, hb1⟩
 have hxa : w1.cell? ⟨w.heap.size, 0, none⟩ = some (.slice A n c) := cell_later hb1 (by go_simp)
 have hx0 : w1.cell? ⟨w.heap.size + 1, 0, none⟩ = some (.int .i64 file) := cell_later hb1 (by go_simp)
 have hx1 : w1.cell? ⟨w.heap.size + 1, 1, none⟩ = some (.int .i64 pos) := cell_later hb1 (by go_simp)
 have hx2 : w1.cell? ⟨w.heap.size + 1, 2, none⟩ = some (.string text) := cell_later hb1 (by go_simp)
 have hq1 : w.heap.size < w1.heap.size := by have := hb1.size; simp at this; omega
 have hq2 : w.heap.size + 1 < w1.heap.size := by have := hb1.size; simp at this; omega
 have HB1 : Hid (Below w.heap.size w w1) := below_then (((Below.refl _ _).alloc (Nat.le_refl _) _).alloc (by first | omega | (simp; done) | (simp; omega)) _) hb1 (by first | omega | (simp; done) | (simp; omega))
 clear hb1
 rcases h1 : diskOk l with _ | _
 ·go_wp2
  go_ret
  exact ⟨ret_bool (by rw [writeOk, h1]; rfl), HB1.out⟩
 ·have H1 := Lib.hid h1
  clear h1
  go_wp2_with fail
  refine (fits_c A c _ _ n l ⟨file, pos, text⟩ _ (hr.below HB1.out) hn hl HF.out (diskOk_all H1.out)).mono ?_
  rintro e w2 ⟨rfl, hb2⟩
  have HB2 := Lib.hid (below_then HB1.out hb2 HB1.out.size)
  clear hb2
  go_wp2
  go_ret
  exact ⟨ret_bool (by rw [writeOk, H1.out]; rfl), HB2.out⟩
set_option maxRecDepth 100000 in
set_option maxHeartbeats 400000 in
theorem specWriteOk_c (A : Option Addr) (c lo hi n : Nat) (l : List ByteArray) (x : Wri) (w : World) (hr : Rd w lo hi A (strs l)) (hn : l.length = n) (hl : n ≤ 1048576) (hf : x.fits) :
  Calls Try.prog 73 #[.agg #[.slice A n c], .agg #[.int .i64 x.file, .int .i64 x.pos, .string x.text]] w fun e w' => e = .returned (.bool (writeOk l x)) ∧ Below w.heap.size w w' := by
 obtain ⟨file, pos, text⟩ := x
 obtain ⟨⟨hf1, hf2⟩, ⟨hp1, hp2⟩, ht⟩ := hf
 simp only at hf1 hf2 hp1 hp2 ht
 simp only [maxLen] at ht
 have HN := Lib.hid hn
 clear hn
 have HR := Lib.hid hr
 have HB0 : ∀ c1 t1 c2 t2, Below w.heap.size w ((w.alloc (.cells c1 t1)).alloc (.cells c2 t2)) := fun c1 t1 c2 t2 => (((Below.refl _ _).alloc (Nat.le_refl _) _).alloc (by first | omega | (simp; done) | (simp; omega)) _)
 generalize hW : ((w.alloc (.cells #[.slice A n c] 26)).alloc (.cells #[.int .i64 file, .int .i64 pos, .string text] 33)) = W2
 have hla : ∀ v : Later W2, v.v.cell? ⟨w.heap.size, 0, none⟩ = some (.slice A n c) := fun v => (later_cell v _ _ (by rw [← hW]; exact (by first | omega | (simp; done) | (simp; omega)))).trans (by rw [← hW]; clear hW; go_simp)
 have hlb : ∀ v : Later W2, v.v.cell? ⟨w.heap.size + 1, 0, none⟩ = some (.int .i64 file) := fun v => (later_cell v _ _ (by rw [← hW]; simp)).trans (by rw [← hW]; clear hW; go_simp)
 have hlp : ∀ v : Later W2, v.v.cell? ⟨w.heap.size + 1, 1, none⟩ = some (.int .i64 pos) := fun v => (later_cell v _ _ (by rw [← hW]; simp)).trans (by rw [← hW]; clear hW; go_simp)
 have hlt : ∀ v : Later W2, v.v.cell? ⟨w.heap.size + 1, 2, none⟩ = some (.string text) := fun v => (later_cell v _ _ (by rw [← hW]; simp)).trans (by rw [← hW]; clear hW; go_simp)
 have hwb : Below w.heap.size w W2 := by rw [← hW]; exact HB0 _ _ _ _
 have HW := Lib.hid hW
 have HWB := Lib.hid hwb
 clear hr hW hwb HB0
 have HD : ∀ v : Later W2, Hid (Calls Try.prog 103 #[.agg #[.slice A n c]] v.v fun e w' => e = .returned (.bool (diskOk l)) ∧ Below v.v.heap.size v.v w') :=
  fun v => specDiskOk_c A c _ _ n l _ ((HR.out.below HWB.out).below v.h) HN.out hl
 rcases h1 : diskOk l with _ | _
 ·have H1 := Lib.hid h1
  clear h1
  go_enter Try.func73, Try.ntmps73
  go_wp2_with fail
  rw [HW.out]
  refine wp_region_later (by kernel_rfl) (by kernel_rfl) ?_
  repeat (go_big_quiet_step ((exact later_vcall (HD _).out (bool_v H1.out))))
  refine wpQuiet_nil ?_
  intro w1 h0
  have hb1 := later_below h0
  clear hla hlb hlp hlt h0 HD
  go_wp2
  go_ret
  exact ⟨ret_bool (by rw [writeOk, H1.out]; rfl), below_then HWB.out hb1 HWB.out.size⟩
 ·have H1 := Lib.hid h1
  have h3 := diskOk_len h1
  clear h1
  rcases h2 : inR file 0 (n - 1) with _ | _
  ·have H2 := Lib.hid h2
   clear h2
   go_enter Try.func73, Try.ntmps73
   go_wp2_with fail
   rw [HW.out]
   refine wp_region_later (by kernel_rfl) (by kernel_rfl) ?_
   repeat (go_big_quiet_step ((first | exact later_vcall (HD _).out (bool_v H1.out) | exact later_pure (l01In_c _ _ _ _) (bool_v H2.out))))
   refine wpQuiet_nil ?_
   intro w1 h0
   have hb1 := later_below h0
   clear hla hlb hlp hlt h0 HD
   go_wp2
   go_ret
   exact ⟨ret_bool (by rw [writeOk, H1.out, fitsD_bad (by rw [HN.out]; exact H2.out)]; rfl), below_then HWB.out hb1 HWB.out.size⟩
  ·have hk := inR_true.1 h2
   obtain ⟨k, rfl⟩ : ∃ k : Nat, file = k := ⟨file.toNat, by omega⟩
   obtain ⟨b, off, s, rfl, hb, hks, hc⟩ := HR.out.str (k := k) (by rw [HN.out]; omega)
   have hls : ∀ v : Later W2, v.v.cell? ⟨b, off + k, none⟩ = some (.string s) := fun v => (later_cell v _ _ (Nat.lt_of_lt_of_le hb HWB.out.size)).trans ((HWB.out.cell (p := ⟨b, off + k, none⟩) hb).trans hc)
   have hss := diskOk_all H1.out s (List.mem_of_getElem? hks)
   have hI1 : (0 : Int) ≤ (k : Int) := by omega
   have hI2 : (k : Int) < (n : Int) := by omega
   have H2 := Lib.hid h2
   have HK := Lib.hid hks
   clear h2 hks hc hk
   rcases h4 : inR pos 0 (s.size : Nat) with _ | _
   ·have H4 := Lib.hid h4
    clear h4
    go_enter Try.func73, Try.ntmps73
    go_wp2_with fail
    rw [HW.out]
    refine wp_region_later (by kernel_rfl) (by kernel_rfl) ?_
    repeat (go_big_quiet_step ((first | exact later_vcall (HD _).out (bool_v H1.out) | exact later_pure (l01In_c _ _ _ _) (bool_v H2.out) | exact later_pure (l01In_c _ _ _ _) (bool_v H4.out))))
    refine wpQuiet_nil ?_
    intro w1 h0
    have hb1 := later_below h0
    clear hla hlb hlp hlt hls h0 HD
    go_wp2
    go_ret
    exact ⟨ret_bool (by rw [writeOk, H1.out, fitsD_bad2 (x := ⟨_, pos, text⟩) rfl HK.out H4.out]; rfl), below_then HWB.out hb1 HWB.out.size⟩
   ·have H4 := Lib.hid h4
    have hq := inR_true.1 h4
    clear h4
    go_enter Try.func73, Try.ntmps73
    go_wp2_with fail
    rw [HW.out]
    refine wp_region_later (by kernel_rfl) (by kernel_rfl) ?_
    repeat (go_big_quiet_step ((first | exact later_vcall (HD _).out (bool_v H1.out) | exact later_pure (l01In_c _ _ _ _) (bool_v H2.out) | exact later_pure (l01In_c _ _ _ _) (bool_v H4.out))))
    refine wpQuiet_nil ?_
    intro w1 h0
    have hb1 := later_below h0
    clear hla hlb hlp hlt hls h0 HD
    go_wp2
    go_ret
    exact ⟨ret_bool (by rw [writeOk, H1.out, fitsD_good (x := ⟨_, pos, text⟩) rfl HK.out H4.out]; rfl), below_then HWB.out hb1 HWB.out.size⟩
end Go.Proofs.Ytoccjgcokffkbaa
