/- Part 15 of the proof of FnWrites: lemmas and contracts. -/
import Derived.Test.YtoccjgcokffkbaaGreatTw13
import Derived.StillTailTactics
namespace Go.Proofs.YtoccjgcokffkbaaGreat
set_option linter.unusedVariables false
set_option linter.unusedSimpArgs false
set_option maxHeartbeats 20000000
set_option maxRecDepth 100000
section
theorem calls_pop (n : Nat) : ∀ k : Nat, n + k ≤ 512 → aZ n k + aP (n + k) = k + aP n
 | 0, _ => by rw [aZ, Nat.add_zero]
 | k + 1, h => by
   have h1 := calls_pop n k (by omega)
   have h2 := (tz_pop (n + k) (by omega)).1
   rw [aZ, show n + (k + 1) = n + k + 1 by omega]
   omega
theorem popN_le (n : Nat) : aP n ≤ 10 := dR n 10
theorem root_fits {width z : Int} {l : List ByteArray} (h : dL width z l = true) : dX width z (aV width l) = true := by
 obtain ⟨h1, h2, h3, h4, h5⟩ := cO h
 rw [dX, ax.2 ⟨h1, h2⟩, decide_eq_true (rngRoot_size h5 h4), Bool.true_and, Bool.true_and]
 by_cases hz : 0 < z
 ·rw [decide_eq_true hz]; rfl
 have h6 : l.length = 0 := by rw [h3, show z = 0 by omega]; decide
 rw [aV, if_pos h6, decide_eq_true rfl, Bool.or_true]
theorem smOk_all {width z1 z2 : Int} {l1 l2 L T : List ByteArray} {h : Hd} (hq : smOk width z1 l1 z2 l2 h L T = true) :
  eD width z1 l1 z2 l2 h = true ∧ bG width L = true ∧ bG width T = true ∧ (L.length : Int) ≤ 512 - z1 ∧ (T.length : Int) ≤ 512 - z2 ∧ ¬ h.num = 399 := by
 rw [smOk, smFit, Bool.and_eq_true, Bool.and_eq_true, Bool.and_eq_true, Bool.and_eq_true, Bool.and_eq_true] at hq
 obtain ⟨⟨⟨h1, h2⟩, h3⟩, ⟨h4, h5⟩, h6⟩ := hq
 exact ⟨h1, h2, h3, of_decide_eq_true h4, of_decide_eq_true h5, by simpa using h6⟩
theorem smOk_of {width z1 z2 : Int} {l1 l2 L T : List ByteArray} {h : Hd} (h1 : eD width z1 l1 z2 l2 h = true) (h2 : bG width L = true) (h3 : bG width T = true) (h4 : (L.length : Int) ≤ 512 - z1) (h5 : (T.length : Int) ≤ 512 - z2) (h6 : ¬ h.num = 399) : smOk width z1 l1 z2 l2 h L T = true := by
 rw [smOk, smFit, h1, h2, h3, decide_eq_true h4, decide_eq_true h5]
 simpa using h6
def nextHd (width z1 : Int) (l1 : List ByteArray) (z2 : Int) (l2 : List ByteArray) (h : Hd) (L T : List ByteArray) : Hd := ⟨h.num + 1, z1 + L.length, aV width (smP width z1 l1 L), z2 + T.length, aV width (smP width z2 l2 T)⟩
theorem seal_next {width z1 z2 : Int} {l1 l2 L T : List ByteArray} {h : Hd} (hq : smOk width z1 l1 z2 l2 h L T = true) :
  eD width (z1 + L.length) (smP width z1 l1 L) (z2 + T.length) (smP width z2 l2 T) (nextHd width z1 l1 z2 l2 h L T) = true := by
 obtain ⟨h1, h2, h3, h4, h5, h6⟩ := smOk_all hq
 obtain ⟨r1, r2, n0, n1⟩ := sealOk_all h1
 obtain ⟨g1, _, _⟩ := rng_grow r1 h2 h4
 obtain ⟨g2, _, _⟩ := rng_grow r2 h3 h5
 have hw := (cO r1).2.2.2.2
 rw [eD, g1, g2, bE, nextHd, hw, ax.2 ⟨by show 0 ≤ h.num + 1; omega, by show h.num + 1 ≤ 399; omega⟩, root_fits g1, root_fits g2, sealFit, rrT, rrT, g1, g2, if_pos rfl, if_pos rfl]
 simp
theorem take_are {width : Int} {L : List ByteArray} (h : bG width L = true) (i : Nat) : bG width (L.take i) = true ∧ bG width (L.drop i) = true :=
 ⟨areH_of fun s hs => df h s (List.mem_of_mem_take hs), areH_of fun s hs => df h s (List.mem_of_mem_drop hs)⟩
theorem made_le {width z1 z2 : Int} {l1 l2 L T : List ByteArray} {h : Hd} (hq : smOk width z1 l1 z2 l2 h L T = true) :
  aZ z1.toNat L.length + aZ z2.toNat T.length + aT (smP width z1 l1 L) + aT (smP width z2 l2 T) ≤ L.length + T.length + 20 := by
 obtain ⟨h1, h2, h3, h4, h5, h6⟩ := smOk_all hq
 obtain ⟨r1, r2, n0, n1⟩ := sealOk_all h1
 have key : ∀ {z : Int} {l M : List ByteArray}, dL width z l = true → (M.length : Int) ≤ 512 - z → aZ z.toNat M.length + aT (smP width z l M) ≤ M.length + 10 := by
  intro z l M hr hm
  obtain ⟨k1, k2, k3, k4, k5⟩ := cO hr
  have k7 : l.length = aP z.toNat := by rw [k3, ← popC_nat (by omega)]; congr 1; omega
  have k8 := bB (width := width) (leaves := M) k7 (k := M.length) (by omega)
  have k9 := calls_pop z.toNat M.length (by omega)
  have k10 := popN_le z.toNat
  rw [aT, smP, k8]
  omega
 have j1 := key r1 h4
 have j2 := key r2 h5
 omega
end
section
open Go.RowKit
def filesOk (l : List ByteArray) : Bool := l.all fun s => decide (s.size ≤ 300000)
def iA (l : List ByteArray) : Bool := decide (l.length = 3) && filesOk l
theorem filesOk_bad {l : List ByteArray} {k : Nat} {s : ByteArray} (h : l[k]? = some s) (hs : 300000 < s.size) : filesOk l = false := by
 rw [filesOk, List.all_eq_false]
 exact ⟨s, List.mem_of_getElem? h, by simp; omega⟩
theorem implDiskOk_c (A : Option Addr) (c lo hi n : Nat) (l : List ByteArray) (w : World) (hr : Rd w lo hi A (strs l)) (hn : l.length = n) (hl : n ≤ 1048576) :
  Calls Tryz.prog 54 #[.agg #[.slice A n c]] w fun e w' => e = .returned (.bool (iA l)) ∧ Below w.heap.size w w' := by
 have HN := lH hn
 clear hn
 go_enter Tryz.func54, Tryz.ntmps54
 go_wp2
 go_loop [8] (fun i => ∃ k : Nat, k ≤ n ∧ i = .int .i64 k ∧ filesOk (l.take k) = true) (fun i => n - (intOf i).toNat)
 case atStart => exact ⟨0, Nat.zero_le _, rfl, rfl⟩
 case round =>
  obtain ⟨k, hk, rfl, hp⟩ := hrel
  by_cases hlt : k < n
  ·obtain ⟨b, off, s, rfl, hb, hks, hc⟩ := hr.str (k := k) (by rw [HN.out]; exact hlt)
   have HK := lH hks
   have HP := lH hp
   clear hks hp hr; go_wp2
   ·go_ret
    exact ⟨ak (by rw [iA, filesOk_bad HK.out (by omega), Bool.and_false]), (Below.refl _ _).alloc (Nat.le_refl _) _⟩
   go_round
   case rel => exact ⟨k + 1, by omega, by go_num, by rw [bH HK.out, filesOk, List.all_append, ← filesOk, HP.out]; simp; omega⟩
   case measure => simp [intOf]; omega
  obtain rfl : k = n := by omega
  have HP := lH hp
  clear hp hr; go_wp2
  go_ret
  refine ⟨ak ?_, (Below.refl _ _).alloc (Nat.le_refl _) _⟩
  have := HP.out
  rw [← HN.out, List.take_length] at this
  rw [iA, this, Bool.and_true, HN.out]
  by_cases h3 : k = 3 <;> simp [h3]
  omega
def fitsD (l : List ByteArray) (x : Wri) : Bool :=
 inR x.file 0 (l.length - 1) && (inR x.pos 0 ((l.getD x.file.toNat ByteArray.empty).size : Nat) && decide ((x.text.size : Int) ≤ 300000 - x.pos))
theorem fitsD_bad {l : List ByteArray} {x : Wri} (h : inR x.file 0 (l.length - 1) = false) : fitsD l x = false := by rw [fitsD, h]; rfl
theorem fitsD_bad2 {l : List ByteArray} {x : Wri} {k : Nat} {s : ByteArray} (hf : x.file = k) (hs : l[k]? = some s) (h : inR x.pos 0 (s.size : Nat) = false) : fitsD l x = false := by
 have e : l.getD x.file.toNat ByteArray.empty = s := by rw [hf]; simp [List.getD, hs]
 rw [fitsD, e, h, Bool.false_and, Bool.and_false]
theorem fitsD_good {l : List ByteArray} {x : Wri} {k : Nat} {s : ByteArray} (hf : x.file = k) (hs : l[k]? = some s) (h : inR x.pos 0 (s.size : Nat) = true) : fitsD l x = decide ((x.text.size : Int) ≤ 300000 - x.pos) := by
 have hk : k < l.length := (List.getElem?_eq_some_iff.1 hs).1
 have e : l.getD x.file.toNat ByteArray.empty = s := by rw [hf]; simp [List.getD, hs]
 have h0 : inR x.file 0 (l.length - 1) = true := by rw [ax]; omega
 rw [fitsD, e, h, h0, Bool.true_and, Bool.true_and]
theorem fits_c (A : Option Addr) (c lo hi n : Nat) (l : List ByteArray) (x : Wri) (w : World) (hr : Rd w lo hi A (strs l)) (hn : l.length = n) (hl : n ≤ 1048576) (hf : x.fits) (hs : ∀ s ∈ l, s.size ≤ 300000) :
  Calls Tryz.prog 56 #[.agg #[.slice A n c], .agg #[.int .i64 x.file, .int .i64 x.pos, .string x.text]] w fun e w' => e = .returned (.bool (fitsD l x)) ∧ Below w.heap.size w w' := by
 obtain ⟨file, pos, text⟩ := x
 obtain ⟨⟨hf1, hf2⟩, ⟨hp1, hp2⟩, ht⟩ := hf
 simp only at hf1 hf2 hp1 hp2 ht
 simp only [maxLen] at ht
 have HN := lH hn
 clear hn
 have HB0 : ∀ c1 t1 c2 t2, Below w.heap.size w ((w.alloc (.cells c1 t1)).alloc (.cells c2 t2)) := fun c1 t1 c2 t2 => (((Below.refl _ _).alloc (Nat.le_refl _) _).alloc (by first | omega | (simp; done) | (simp; omega)) _)
 have hla : ∀ v : Later ((w.alloc (.cells #[.slice A n c] 68)).alloc (.cells #[.int .i64 file, .int .i64 pos, .string text] 108)), v.v.cell? ⟨w.heap.size, 0, none⟩ = some (.slice A n c) := fun v => (ai v _ _ (by first | omega | (simp; done) | (simp; omega))).trans (by go_simp)
 have hlb : ∀ v : Later ((w.alloc (.cells #[.slice A n c] 68)).alloc (.cells #[.int .i64 file, .int .i64 pos, .string text] 108)), v.v.cell? ⟨w.heap.size + 1, 0, none⟩ = some (.int .i64 file) := fun v => (ai v _ _ (by simp)).trans (by go_simp)
 have hlp : ∀ v : Later ((w.alloc (.cells #[.slice A n c] 68)).alloc (.cells #[.int .i64 file, .int .i64 pos, .string text] 108)), v.v.cell? ⟨w.heap.size + 1, 1, none⟩ = some (.int .i64 pos) := fun v => (ai v _ _ (by simp)).trans (by go_simp)
 rcases h1 : inR file 0 (n - 1) with _ | _
 ·have H1 := lH h1
  clear hr hs h1
  go_enter Tryz.func56, Tryz.ntmps56
  go_wp2_with fail
  refine aA (by kernel_rfl) (by kernel_rfl) ?_
  repeat (go_big_quiet_step ((exact later_pure (dB _ _ _ _) (bool_v H1.out))))
  refine wpQuiet_nil ?_
  intro w1 h0
  have hb1 := aO h0
  clear hla hlb hlp h0; go_wp2
  go_ret
  exact ⟨ak (fitsD_bad (by rw [HN.out]; exact H1.out)).symm, aj (HB0 _ _ _ _) hb1 (by first | omega | (simp; done) | (simp; omega))⟩
 have hk := ax.1 h1
 obtain ⟨k, rfl⟩ : ∃ k : Nat, file = k := ⟨file.toNat, by omega⟩
 obtain ⟨b, off, s, rfl, hb, hks, hc⟩ := hr.str (k := k) (by rw [HN.out]; omega)
 have hls : ∀ v : Later ((w.alloc (.cells #[.slice (some ⟨b, off, none⟩) n c] 68)).alloc (.cells #[.int .i64 k, .int .i64 pos, .string text] 108)), v.v.cell? ⟨b, off + k, none⟩ = some (.string s) := fun v => (ai v _ _ (by first | omega | (simp; done) | (simp; omega))).trans (by first | (go_simp; done) | (go_simp; exact hc))
 have hss := hs s (List.mem_of_getElem? hks)
 have hI1 : (0 : Int) ≤ (k : Int) := by omega
 have hI2 : (k : Int) < (n : Int) := by omega
 have H1 := lH h1
 have HK := lH hks
 clear hr hs h1 hks hc hk
 rcases h2 : inR pos 0 (s.size : Nat) with _ | _
 ·have H2 := lH h2
  clear h2
  go_enter Tryz.func56, Tryz.ntmps56
  go_wp2_with fail
  refine aA (by kernel_rfl) (by kernel_rfl) ?_
  repeat (go_big_quiet_step ((first | exact later_pure (dB _ _ _ _) (bool_v H1.out) | exact later_pure (dB _ _ _ _) (bool_v H2.out))))
  refine wpQuiet_nil ?_
  intro w1 h0
  have hb1 := aO h0
  clear hla hlb hlp hls h0; go_wp2
  go_ret
  exact ⟨ak (fitsD_bad2 rfl HK.out H2.out).symm, aj (HB0 _ _ _ _) hb1 (by first | omega | (simp; done) | (simp; omega))⟩
 have H2 := lH h2
 have hq := ax.1 h2
 clear h2
 go_enter Tryz.func56, Tryz.ntmps56
 go_wp2_with fail
 refine aA (by kernel_rfl) (by kernel_rfl) ?_
 repeat (go_big_quiet_step ((first | exact later_pure (dB _ _ _ _) (bool_v H1.out) | exact later_pure (dB _ _ _ _) (bool_v H2.out))))
 refine wpQuiet_nil ?_
 intro w1 h0
 have hb1 := aO h0
 have hx1 : w1.cell? ⟨w.heap.size + 1, 1, none⟩ = some (.int .i64 pos) := (hb1.cell (p := ⟨w.heap.size + 1, 1, none⟩) (by simp)).trans (by go_simp)
 have hx2 : w1.cell? ⟨w.heap.size + 1, 2, none⟩ = some (.string text) := (hb1.cell (p := ⟨w.heap.size + 1, 2, none⟩) (by simp)).trans (by go_simp)
 have HB1 := lH hb1
 clear hla hlb hlp hls h0 hb1
 go_wp2
 go_ret
 exact ⟨ak (fitsD_good (x := ⟨_, pos, text⟩) rfl HK.out H2.out).symm, aj (HB0 _ _ _ _) HB1.out (by first | omega | (simp; done) | (simp; omega))⟩
theorem diskOk_len {l : List ByteArray} (h : iA l = true) : l.length = 3 := by
 rw [iA, Bool.and_eq_true] at h; simpa using h.1
theorem diskOk_all {l : List ByteArray} (h : iA l = true) : ∀ s ∈ l, s.size ≤ 300000 := by
 rw [iA, Bool.and_eq_true, filesOk, List.all_eq_true] at h
 intro s hs; simpa using h.2 s hs
theorem copyDisk_c (A : Option Addr) (c lo hi n : Nat) (l : List ByteArray) (w : World) (hr : Rd w lo hi A (strs l)) (hn : l.length = n) (hl : n ≤ 1048576) (hA : A = none → c = 0) :
  Calls Tryz.prog 55 #[.agg #[.slice A n c]] w fun e w' => ∃ (A' : Option Addr) (c' : Nat), e = .returned (.agg #[.slice A' n c']) ∧ n ≤ c' ∧ (A' = none → c' = 0) ∧ Own w' w.heap.size w'.heap.size A' (strs l) ∧ Below w.heap.size w w' := by
 go_enter Tryz.func55, Tryz.ntmps55
 go_wp2_with fail
 refine (cloneStr_c A c _ _ n l _ ((hr.alloc _).alloc _) hn hl hA).mono ?_
 rintro e w1 ⟨A', c', rfl, h1, h2, ho, hb1⟩
 have hx : w1.cell? ⟨w.heap.size + 1, 0, none⟩ = some (.slice none 0 0) := cell_later hb1 (by go_simp)
 have hz : w.heap.size + 1 < w1.heap.size := by have := hb1.size; simp at this; omega
 have hfz : w1.frozen? ⟨w.heap.size + 1, 0, none⟩ = false := (hb1.frozen (p := ⟨w.heap.size + 1, 0, none⟩) (by simp)).trans (by go_simp)
 have HB : Hid (Below w.heap.size w w1) := aj (((Below.refl _ _).alloc (Nat.le_refl _) _).alloc (by first | omega | (simp; done) | (simp; omega)) _) hb1 (by first | omega | (simp; done) | (simp; omega))
 have HO := lH ho
 have H12 := lH (And.intro h1 h2)
 clear hb1 ho h1 h2
 go_wp2
 refine bodyPost_ret (v := .agg #[.slice A' n c']) (by simp [results, Tryz.results55, go_sem, World.cell?_setCell_same _ _ _ hx]) rfl ?_
 exact ⟨A', c', rfl, H12.out.1, H12.out.2, (HO.out.setCell (.inl (by first | omega | (simp; done) | (simp; omega))) _).mono (by first | omega | (simp; done) | (simp; omega)) (by first | omega | simp [World.setCell] <;> omega) (by first | omega | simp [World.setCell] <;> omega), HB.out.setCell (by first | omega | (simp; done) | (simp; omega)) _⟩
def cutPut (s : ByteArray) (pos : Int) (text : ByteArray) : ByteArray := s.extract 0 pos.toNat ++ text
theorem put_c (p b off c lo hi n k : Nat) (l : List ByteArray) (x : Wri) (s : ByteArray) (w : World) (hp : w.cell? ⟨p, 0, none⟩ = some (.slice (some ⟨b, off, none⟩) n c)) (hpz : p < w.heap.size)
  (hr : Own w lo hi (some ⟨b, off, none⟩) (strs l)) (hn : l.length = n) (hl : n ≤ 1048576) (hf : x.fits) (hk : x.file = k) (hks : l[k]? = some s) (h1 : 0 ≤ x.pos) (h2 : x.pos ≤ (s.size : Nat)) (h3 : (x.text.size : Int) ≤ 300000 - x.pos) :
  Calls Tryz.prog 57 #[.pointer (some ⟨p, 0, none⟩), .agg #[.int .i64 x.file, .int .i64 x.pos, .string x.text]] w fun e w' => e = .returned (.tuple #[]) ∧ Only lo hi w w' ∧ Own w' lo hi (some ⟨b, off, none⟩) (strs (l.set k (cutPut s x.pos x.text))) := by
 obtain ⟨file, pos, text⟩ := x
 simp only at hk h1 h2 h3
 subst hk
 have hkn : k < n := by have := (List.getElem?_eq_some_iff.1 hks).1; omega
 obtain ⟨b', off', e1, g1, g2, g3, g4, g5⟩ := hr (by intro e; rw [strs, List.map_eq_nil_iff] at e; subst e; simp at hks)
 cases e1
 have hc := g4 k (.string s) (strs_get hks)
 have hz := g5 k
 obtain ⟨ps, rfl⟩ : ∃ ps : Nat, pos = ps := ⟨pos.toNat, by omega⟩
 have hI1 : (0 : Int) ≤ (k : Int) := by omega
 have hI2 : (k : Int) < (n : Int) := by omega
 have hbz : b < w.heap.size := by omega
 have HR := lH hr
 have HK := lH hks
 obtain ⟨⟨hf1, hf2⟩, ⟨hp1, hp2⟩, ht⟩ := hf
 simp only at hf1 hf2 hp1 hp2 ht
 have HL := lH g1
 have HH := lH g2
 clear hr g1 g2 g3 g4 g5 hks
 go_enter Tryz.func57, Tryz.ntmps57
 go_wp2_with fail
 generalize hW : w.alloc (.cells #[.int .i64 (k : Int), .int .i64 (ps : Int), .string text] 108) = W2
 have hWB : Below w.heap.size w W2 := by rw [← hW]; exact (Below.refl _ _).alloc (Nat.le_refl _) _
 have hWO : Only lo hi w W2 := by rw [← hW]; exact (Only.refl _ _ _).alloc _
 have hq0 : W2.cell? ⟨p, 0, none⟩ = some (.slice (some ⟨b, off, none⟩) n c) := (hWB.cell (p := ⟨p, 0, none⟩) hpz).trans hp
 have hq1 : W2.cell? ⟨b, off + k, none⟩ = some (.string s) := (hWB.cell (p := ⟨b, off + k, none⟩) hbz).trans hc
 have hq2 : W2.cell? ⟨w.heap.size, 0, none⟩ = some (.int .i64 k) := by rw [← hW]; clear hW; go_simp
 have hq3 : W2.cell? ⟨w.heap.size, 1, none⟩ = some (.int .i64 ps) := by rw [← hW]; clear hW; go_simp
 have hq4 : W2.cell? ⟨w.heap.size, 2, none⟩ = some (.string text) := by rw [← hW]; clear hW; go_simp
 have hesz : (s.extract 0 ps).size = ps := by rw [ByteArray.size_extract]; omega
 have hadd : (s.extract 0 ps).size + text.size ≤ maxLen := by unfold maxLen; omega
 have hcat := fun (W : World) => run_string_add_sum (P := Tryz.prog) W (s.extract 0 ps) text hadd
 have hcat2 : ¬ (9223372036854775807 : Int) < (ps : Int) + (text.size : Int) := by omega
 clear hW
 go_still_tail 21, (by kernel_rfl)
 have hfz : W2.frozen? ⟨b, off + k, none⟩ = false := (hWB.frozen (p := ⟨b, off + k, none⟩) hbz).trans hz
 change wpList _ _ _ _ _ W2.drew
 go_wp2
 have hpf := (List.getElem?_eq_some_iff.1 HK.out).1
 have hO := (((HR.out.below hWB).set (j := k) (by rw [strs_len]; exact hpf) (.string (s.extract 0 ps ++ text))).drew)
 have hS : (strs l).set k (.string (s.extract 0 ps ++ text)) = strs (l.set k (cutPut s ps text)) := by
  rw [strs, strs, List.map_set]; rfl
 rw [hS] at hO
 have hX : Only lo hi w (W2.setCell ⟨b, off + k, none⟩ (.string (s.extract 0 ps ++ text))).drew := (hWO.setCell (p := ⟨b, off + k, none⟩) HL.out HH.out _).drew
 exact bodyPost_end (v := .tuple #[]) (by simp [results, Tryz.results57, go_sem]) rfl ⟨rfl, hX, hO⟩
def putL (l : List ByteArray) (x : Wri) : List ByteArray := l.set x.file.toNat (cutPut (l.getD x.file.toNat ByteArray.empty) x.pos x.text)
theorem fitsD_all {l : List ByteArray} {x : Wri} (h : fitsD l x = true) : ∃ (k : Nat) (s : ByteArray), x.file = k ∧ l[k]? = some s ∧ 0 ≤ x.pos ∧ x.pos ≤ (s.size : Nat) ∧ (x.text.size : Int) ≤ 300000 - x.pos := by
 rw [fitsD, Bool.and_eq_true, Bool.and_eq_true] at h
 obtain ⟨h1, h2, h3⟩ := h
 have k1 := ax.1 h1
 have k2 := ax.1 h2
 have hk : x.file.toNat < l.length := by omega
 have e : l.getD x.file.toNat ByteArray.empty = l[x.file.toNat] := by simp [List.getD, List.getElem?_eq_getElem hk]
 rw [e] at k2
 exact ⟨x.file.toNat, l[x.file.toNat], by omega, List.getElem?_eq_getElem hk, k2.1, k2.2, by simpa using h3⟩
theorem putL_eq {l : List ByteArray} {x : Wri} {k : Nat} {s : ByteArray} (hk : x.file = k) (hs : l[k]? = some s) : putL l x = l.set k (cutPut s x.pos x.text) := by
 rw [putL, hk]; simp [List.getD, hs]
theorem putL_len (l : List ByteArray) (x : Wri) : (putL l x).length = l.length := by simp [putL]
theorem cell_only {w w' : World} {lo hi k o : Nat} {v : Value} (h : Only lo hi w w') (hc : w.cell? ⟨k, o, none⟩ = some v) (hk : k < lo ∨ hi ≤ k) : w'.cell? ⟨k, o, none⟩ = some v :=
 (only_at h (World.block_lt_of_cell? w ⟨k, o, none⟩ hc) hk o).trans hc
theorem froz_only {w w' : World} {lo hi k o : Nat} {v : Value} {b : Bool} (h : Only lo hi w w') (hc : w.cell? ⟨k, o, none⟩ = some v) (hf : w.frozen? ⟨k, o, none⟩ = b) (hk : k < lo ∨ hi ≤ k) : w'.frozen? ⟨k, o, none⟩ = b :=
 (World.frozen?_of_block (h.block k (World.block_lt_of_cell? w ⟨k, o, none⟩ hc) hk)).trans hf
theorem froz_later {w w' : World} {k o : Nat} {v : Value} {b : Bool} (h : Below w.heap.size w w') (hc : w.cell? ⟨k, o, none⟩ = some v) (hf : w.frozen? ⟨k, o, none⟩ = b) : w'.frozen? ⟨k, o, none⟩ = b :=
 (h.frozen (p := ⟨k, o, none⟩) (World.block_lt_of_cell? w ⟨k, o, none⟩ hc)).trans hf
theorem ownsRow_setCell {w : World} {base e size n : Nat} {v : Value} {xs : List Value} (h : w.ownsRow base e size v n xs) {p : Addr} (hp : p.block < base) (u : Value) : (w.setCell p u).ownsRow base e size v n xs := by
 refine h.kept (row := some p.block) ⟨rfl, rfl, rfl, by simp [World.setCell], fun k hk hne => Below.heap_setCell _ _ _ _ (fun e => hne (by rw [e]))⟩ ?_
 rcases hv : v.ownBlock with _ | k
 ·exact .inl rfl
 refine .inr (fun e => ?_)
 have := (h.lt k hv).1
 cases e
 omega
theorem fC (w : World) (o : Obj) {k off : Nat} {v : Value} (h : w.cell? ⟨k, off, none⟩ = some v) : (w.alloc o).cell? ⟨k, off, none⟩ = some v :=
 (((Below.refl w.heap.size w).alloc (Nat.le_refl _) o).cell (p := ⟨k, off, none⟩) (World.block_lt_of_cell? w ⟨k, off, none⟩ h)).trans h
theorem froz_alloc_old (w : World) (o : Obj) {k off : Nat} {v : Value} {b : Bool} (h : w.cell? ⟨k, off, none⟩ = some v) (hf : w.frozen? ⟨k, off, none⟩ = b) : (w.alloc o).frozen? ⟨k, off, none⟩ = b :=
 (((Below.refl w.heap.size w).alloc (Nat.le_refl _) o).frozen (p := ⟨k, off, none⟩) (World.block_lt_of_cell? w ⟨k, off, none⟩ h)).trans hf
end
end Go.Proofs.YtoccjgcokffkbaaGreat
