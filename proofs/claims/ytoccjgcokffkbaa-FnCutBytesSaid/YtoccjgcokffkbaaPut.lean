/- copyDisk, (*Disk).put, Put. -/
import Derived.Test.YtoccjgcokffkbaaClone
import Derived.Test.YtoccjgcokffkbaaFnA3
import Derived.StillTailTactics
namespace Go.Proofs.Ytoccjgcokffkbaa
set_option linter.unusedVariables false
set_option linter.unusedSimpArgs false
open Go.RowKit

set_option maxRecDepth 100000 in
set_option maxHeartbeats 400000 in
theorem copyDisk_c (A : Option Addr) (c lo hi n : Nat) (l : List ByteArray) (w : World) (hr : Rd w lo hi A (strs l)) (hn : l.length = n) (hl : n ≤ 1048576) (hA : A = none → c = 0) :
  Calls Try.prog 38 #[.agg #[.slice A n c]] w fun e w' => ∃ (A' : Option Addr) (c' : Nat), e = .returned (.agg #[.slice A' n c']) ∧ n ≤ c' ∧ (A' = none → c' = 0) ∧ Own w' w.heap.size w'.heap.size A' (strs l) ∧ Below w.heap.size w w' := by
 go_enter Try.func38, Try.ntmps38
 go_wp2_with fail
 refine (cloneStr_c A c _ _ n l _ ((hr.alloc _).alloc _) hn hl hA).mono ?_
 rintro e w1 ⟨A', c', rfl, h1, h2, ho, hb1⟩
 have hx : w1.cell? ⟨w.heap.size + 1, 0, none⟩ = some (.slice none 0 0) := cell_later hb1 (by go_simp)
 have hz : w.heap.size + 1 < w1.heap.size := by have := hb1.size; simp at this; omega
 have hfz : w1.frozen? ⟨w.heap.size + 1, 0, none⟩ = false := (hb1.frozen (p := ⟨w.heap.size + 1, 0, none⟩) (by simp)).trans (by go_simp)
 have HB : Hid (Below w.heap.size w w1) := below_then (((Below.refl _ _).alloc (Nat.le_refl _) _).alloc (by first | omega | (simp; done) | (simp; omega)) _) hb1 (by first | omega | (simp; done) | (simp; omega))
 have HO := Lib.hid ho
 have H12 := Lib.hid (And.intro h1 h2)
 clear hb1 ho h1 h2
 go_wp2
 refine bodyPost_ret (v := .agg #[.slice A' n c']) (by simp [results, Try.results38, go_sem, World.cell?_setCell_same _ _ _ hx]) rfl ?_
 exact ⟨A', c', rfl, H12.out.1, H12.out.2, (HO.out.setCell (.inl (by first | omega | (simp; done) | (simp; omega))) _).mono (by first | omega | (simp; done) | (simp; omega)) (by first | omega | (simp [World.setCell]; done) | (simp [World.setCell]; omega)) (by first | omega | (simp [World.setCell]; done) | (simp [World.setCell]; omega)), HB.out.setCell (by first | omega | (simp; done) | (simp; omega)) _⟩

def cutPut (s : ByteArray) (pos : Int) (text : ByteArray) : ByteArray := s.extract 0 pos.toNat ++ text
set_option maxRecDepth 100000 in
set_option maxHeartbeats 400000 in
theorem put_c (p b off c lo hi n k : Nat) (l : List ByteArray) (x : Wri) (s : ByteArray) (w : World) (hp : w.cell? ⟨p, 0, none⟩ = some (.slice (some ⟨b, off, none⟩) n c)) (hpz : p < w.heap.size)
  (hr : Own w lo hi (some ⟨b, off, none⟩) (strs l)) (hn : l.length = n) (hl : n ≤ 1048576) (hf : x.fits) (hk : x.file = k) (hks : l[k]? = some s) (h1 : 0 ≤ x.pos) (h2 : x.pos ≤ (s.size : Nat)) (h3 : (x.text.size : Int) ≤ 300000 - x.pos) :
  Calls Try.prog 40 #[.pointer (some ⟨p, 0, none⟩), .agg #[.int .i64 x.file, .int .i64 x.pos, .string x.text]] w fun e w' => e = .returned (.tuple #[]) ∧ Only lo hi w w' ∧ Own w' lo hi (some ⟨b, off, none⟩) (strs (l.set k (cutPut s x.pos x.text))) := by
 obtain ⟨file, pos, text⟩ := x
 simp only at hk h1 h2 h3
 subst hk
 have hkn : k < n := by have := (List.getElem?_eq_some_iff.1 hks).1; omega
 obtain ⟨b', off', e1, g1, g2, g3, g4, g5⟩ := hr (by intro e; rw [strs, List.map_eq_nil_iff] at e; subst e; simp at hks)
 cases e1
 have hc := g4 k (.string s) (strs_get hks)
 have hz := g5 k
 obtain ⟨ps, rfl⟩ : ∃ ps : Nat, pos = ps := ⟨pos.toNat, by omega⟩
 have hI1 : (0 : Int) ≤ (k : Int) := by omega
 have hI2 : (k : Int) < (n : Int) := by omega
 have hbz : b < w.heap.size := by omega
 have HR := Lib.hid hr
 have HK := Lib.hid hks
 obtain ⟨⟨hf1, hf2⟩, ⟨hp1, hp2⟩, ht⟩ := hf
 simp only at hf1 hf2 hp1 hp2 ht
 have HL := Lib.hid g1
 have HH := Lib.hid g2
 clear hr g1 g2 g3 g4 g5 hks
 go_enter Try.func40, Try.ntmps40
 go_wp2_with fail
 generalize hW : w.alloc (.cells #[.int .i64 (k : Int), .int .i64 (ps : Int), .string text] 33) = W2
 have hWB : Below w.heap.size w W2 := by rw [← hW]; exact (Below.refl _ _).alloc (Nat.le_refl _) _
 have hWO : Only lo hi w W2 := by rw [← hW]; exact (Only.refl _ _ _).alloc _
 have hq0 : W2.cell? ⟨p, 0, none⟩ = some (.slice (some ⟨b, off, none⟩) n c) := (hWB.cell (p := ⟨p, 0, none⟩) hpz).trans hp
 have hq1 : W2.cell? ⟨b, off + k, none⟩ = some (.string s) := (hWB.cell (p := ⟨b, off + k, none⟩) hbz).trans hc
 have hq2 : W2.cell? ⟨w.heap.size, 0, none⟩ = some (.int .i64 k) := by rw [← hW]; clear hW; go_simp
 have hq3 : W2.cell? ⟨w.heap.size, 1, none⟩ = some (.int .i64 ps) := by rw [← hW]; clear hW; go_simp
 have hq4 : W2.cell? ⟨w.heap.size, 2, none⟩ = some (.string text) := by rw [← hW]; clear hW; go_simp
 have hesz : (s.extract 0 ps).size = ps := by rw [ByteArray.size_extract]; omega
 have hadd : (s.extract 0 ps).size + text.size ≤ maxLen := by unfold maxLen; omega
 have hcat := fun (W : World) => run_string_add_sum (P := Try.prog) W (s.extract 0 ps) text hadd
 have hcat2 : ¬ (9223372036854775807 : Int) < (ps : Int) + (text.size : Int) := by omega
 clear hW
 go_still_tail 21, (by kernel_rfl)
 have hfz : W2.frozen? ⟨b, off + k, none⟩ = false := (hWB.frozen (p := ⟨b, off + k, none⟩) hbz).trans hz
 change wpList _ _ _ _ _ W2.drew
 go_wp2
 have hpf := (List.getElem?_eq_some_iff.1 HK.out).1
 have hO := (((HR.out.below hWB).set (j := k) (by rw [strs_len]; exact hpf) (.string (s.extract 0 ps ++ text))).drew)
 have hS : (strs l).set k (.string (s.extract 0 ps ++ text)) = strs (l.set k (cutPut s ps text)) := by
  rw [strs, strs, List.map_set]; rfl
 rw [hS] at hO
 have hX : Only lo hi w (W2.setCell ⟨b, off + k, none⟩ (.string (s.extract 0 ps ++ text))).drew := (hWO.setCell (p := ⟨b, off + k, none⟩) HL.out HH.out _).drew
 exact bodyPost_end (v := .tuple #[]) (by simp [results, Try.results40, go_sem]) rfl ⟨rfl, hX, hO⟩
def putL (l : List ByteArray) (x : Wri) : List ByteArray := l.set x.file.toNat (cutPut (l.getD x.file.toNat ByteArray.empty) x.pos x.text)
def putM (l : List ByteArray) (x : Wri) : List ByteArray := if writeOk l x then putL l x else []
theorem writeOk_fits {l : List ByteArray} {x : Wri} (h : writeOk l x = true) : diskOk l = true ∧ fitsD l x = true := by rw [writeOk, Bool.and_eq_true] at h; exact h
theorem fitsD_all {l : List ByteArray} {x : Wri} (h : fitsD l x = true) : ∃ (k : Nat) (s : ByteArray), x.file = k ∧ l[k]? = some s ∧ 0 ≤ x.pos ∧ x.pos ≤ (s.size : Nat) ∧ (x.text.size : Int) ≤ 300000 - x.pos := by
 rw [fitsD, Bool.and_eq_true, Bool.and_eq_true] at h
 obtain ⟨h1, h2, h3⟩ := h
 have k1 := inR_true.1 h1
 have k2 := inR_true.1 h2
 have hk : x.file.toNat < l.length := by omega
 have e : l.getD x.file.toNat ByteArray.empty = l[x.file.toNat] := by simp [List.getD, List.getElem?_eq_getElem hk]
 rw [e] at k2
 exact ⟨x.file.toNat, l[x.file.toNat], by omega, List.getElem?_eq_getElem hk, k2.1, k2.2, by simpa using h3⟩
theorem putL_eq {l : List ByteArray} {x : Wri} {k : Nat} {s : ByteArray} (hk : x.file = k) (hs : l[k]? = some s) : putL l x = l.set k (cutPut s x.pos x.text) := by
 rw [putL, hk]; simp [List.getD, hs]
theorem putL_len (l : List ByteArray) (x : Wri) : (putL l x).length = l.length := by simp [putL]

theorem cell_only {w w' : World} {lo hi k o : Nat} {v : Value} (h : Only lo hi w w') (hc : w.cell? ⟨k, o, none⟩ = some v) (hk : k < lo ∨ hi ≤ k) : w'.cell? ⟨k, o, none⟩ = some v :=
 (only_at h (World.block_lt_of_cell? w ⟨k, o, none⟩ hc) hk o).trans hc
theorem froz_only {w w' : World} {lo hi k o : Nat} {v : Value} {b : Bool} (h : Only lo hi w w') (hc : w.cell? ⟨k, o, none⟩ = some v) (hf : w.frozen? ⟨k, o, none⟩ = b) (hk : k < lo ∨ hi ≤ k) : w'.frozen? ⟨k, o, none⟩ = b :=
 (World.frozen?_of_block (h.block k (World.block_lt_of_cell? w ⟨k, o, none⟩ hc) hk)).trans hf
theorem froz_later {w w' : World} {k o : Nat} {v : Value} {b : Bool} (h : Below w.heap.size w w') (hc : w.cell? ⟨k, o, none⟩ = some v) (hf : w.frozen? ⟨k, o, none⟩ = b) : w'.frozen? ⟨k, o, none⟩ = b :=
 (h.frozen (p := ⟨k, o, none⟩) (World.block_lt_of_cell? w ⟨k, o, none⟩ hc)).trans hf

set_option maxRecDepth 100000 in
set_option maxHeartbeats 400000 in
theorem implPut_c (A : Option Addr) (c lo hi n : Nat) (l : List ByteArray) (x : Wri) (w : World) (hr : Rd w lo hi A (strs l)) (hn : l.length = n) (hl : n ≤ 1048576) (hf : x.fits) :
  Calls Try.prog 42 #[.agg #[.slice A n c], .agg #[.int .i64 x.file, .int .i64 x.pos, .string x.text]] w fun e w' => ∃ (A' : Option Addr) (c' : Nat), e = .returned (.tuple #[.agg #[.slice A' (putM l x).length c'], .bool (writeOk l x)]) ∧ Own w' w.heap.size w'.heap.size A' (strs (putM l x)) ∧ Below w.heap.size w w' := by
 have HF := Lib.hid hf
 have HN := Lib.hid hn
 obtain ⟨file, pos, text⟩ := x
 clear hf hn
 go_enter Try.func42, Try.ntmps42
 go_wp2_with fail
 refine (implWriteOk_c A c _ _ n l ⟨file, pos, text⟩ _ (((hr.alloc _).alloc _).alloc _) HN.out hl HF.out).mono ?_
 rintro e w1 ⟨rfl, hb1⟩
 have hx0 : w1.cell? ⟨w.heap.size, 0, none⟩ = some (.slice A n c) := cell_later hb1 (by go_simp)
 have hy0 : w1.cell? ⟨w.heap.size + 1, 0, none⟩ = some (.int .i64 file) := cell_later hb1 (by go_simp)
 have hy1 : w1.cell? ⟨w.heap.size + 1, 1, none⟩ = some (.int .i64 pos) := cell_later hb1 (by go_simp)
 have hy2 : w1.cell? ⟨w.heap.size + 1, 2, none⟩ = some (.string text) := cell_later hb1 (by go_simp)
 have hz0 : w1.cell? ⟨w.heap.size + 2, 0, none⟩ = some (.slice none 0 0) := cell_later hb1 (by go_simp)
 have hzf : w1.frozen? ⟨w.heap.size + 2, 0, none⟩ = false := (hb1.frozen (p := ⟨w.heap.size + 2, 0, none⟩) (by simp)).trans (by go_simp)
 have hq : w.heap.size + 2 < w1.heap.size := by have := hb1.size; simp at this; omega
 have HB1 : Hid (Below w.heap.size w w1) := below_then ((((Below.refl _ _).alloc (Nat.le_refl _) _).alloc (by first | omega | (simp; done) | (simp; omega)) _).alloc (by first | omega | (simp; done) | (simp; omega)) _) hb1 (by first | omega | (simp; done) | (simp; omega))
 clear hb1
 rcases h1 : writeOk l ⟨file, pos, text⟩ with _ | _
 ·have H1 := Lib.hid h1
  clear h1
  have hpm : Hid (putM l ⟨file, pos, text⟩ = []) := by rw [Hid, putM, H1.out]; rfl
  go_wp2
  refine bodyPost_ret (v := .tuple #[.agg #[.slice none 0 0], .bool false]) (by simp [results, Try.results42, go_sem, World.cell?_setCell_same _ _ _ hz0]) rfl ?_
  exact ⟨none, 0, by rw [hpm.out, H1.out]; rfl, by rw [hpm.out]; exact Own.nil, HB1.out.setCell (by first | omega | (simp; done) | (simp; omega)) _⟩
 ·have H1 := Lib.hid h1
  clear h1
  obtain ⟨hd, hft⟩ := writeOk_fits H1.out
  obtain ⟨k, s, hk, hks, hp1, hp2, hp3⟩ := fitsD_all hft
  simp only at hk hp1 hp2 hp3
  subst hk
  have hn3 := diskOk_len hd
  have hA : A ≠ none := by
   rintro rfl
   obtain ⟨b, off, h, _⟩ := hr (by intro e; rw [strs, List.map_eq_nil_iff] at e; subst e; simp at hn3)
   cases h
  go_wp2_with fail
  refine (copyDisk_c A c _ _ n l _ (hr.below HB1.out) HN.out hl (fun h => absurd h hA)).mono ?_
  rintro e w2 ⟨A2, c2, rfl, hc1, hc2, ho2, hb2⟩
  obtain ⟨b2, off2, rfl, g1, g2, _⟩ := ho2 (by intro e; rw [strs, List.map_eq_nil_iff] at e; subst e; simp at hn3)
  have hy0' := cell_later hb2 hy0
  have hy1' := cell_later hb2 hy1
  have hy2' := cell_later hb2 hy2
  have hz0' := cell_later hb2 hz0
  have hzf' := froz_later hb2 hz0 hzf
  have hq' : w1.heap.size ≤ w2.heap.size := hb2.size
  have hqa : w.heap.size + 1 < w2.heap.size := by omega
  have hqb : w.heap.size + 2 < w2.heap.size := by omega
  have HB2 := Lib.hid (below_then HB1.out hb2 HB1.out.size)
  have HO2 := Lib.hid ho2.tight
  clear hx0 hy0 hy1 hy2 hz0 hzf hb2 ho2 hr
  go_wp2_with fail
  have hpc : (w2.alloc (.cells #[.slice (some ⟨b2, off2, none⟩) n c2] 26)).cell? ⟨w2.heap.size, 0, none⟩ = some (.slice (some ⟨b2, off2, none⟩) n c2) := by go_simp
  refine (put_c w2.heap.size b2 off2 c2 _ _ n k l ⟨(k : Int), pos, text⟩ s _ hpc (by simp) (HO2.out.alloc _) HN.out hl HF.out rfl hks hp1 hp2 hp3).mono ?_
  rintro e w3 ⟨rfl, ho3, hO3⟩
  have hz3 : w3.cell? ⟨w.heap.size + 2, 0, none⟩ = some (.slice none 0 0) := cell_only ho3 (by first | (go_simp; done) | (go_simp; exact hz0')) (by omega)
  have hzf3 : w3.frozen? ⟨w.heap.size + 2, 0, none⟩ = false := froz_only ho3 (v := .slice none 0 0) (by first | (go_simp; done) | (go_simp; exact hz0')) (by first | (go_simp; done) | (go_simp; exact hzf')) (by omega)
  have ht3 : w3.cell? ⟨w2.heap.size, 0, none⟩ = some (.slice (some ⟨b2, off2, none⟩) n c2) := cell_only ho3 (by go_simp) (by omega)
  have hq3 : w2.heap.size < w3.heap.size := by have := ho3.size; simp at this; omega
  have HB3 : Hid (Below w.heap.size w w3) := below_only (HB2.out.alloc HB2.out.size _) ho3 (by omega) (by first | omega | (simp; done) | (simp; omega))
  have HO3 := Lib.hid hO3
  have hpm : Hid (putM l ⟨(k : Int), pos, text⟩ = l.set k (cutPut s pos text)) := by rw [Hid, putM, H1.out, if_pos rfl, putL_eq (x := ⟨(k : Int), pos, text⟩) rfl hks]
  have hpl : (putM l ⟨(k : Int), pos, text⟩).length = n := by rw [hpm.out, List.length_set, HN.out]
  clear ho3 hO3 hy0' hy1' hy2' hz0' hzf'
  go_wp2
  refine bodyPost_ret (v := .tuple #[.agg #[.slice (some ⟨b2, off2, none⟩) n c2], .bool true]) (by simp [results, Try.results42, go_sem, World.cell?_setCell_same _ _ _ hz3]) rfl ?_
  exact ⟨some ⟨b2, off2, none⟩, c2, by rw [hpl, H1.out], by rw [hpm.out]; exact (HO3.out.setCell (.inl (by first | omega | (simp; done) | (simp; omega))) _).mono (by first | omega | (simp; done) | (simp; omega)) (by first | omega | (simp [World.setCell]; done) | (simp [World.setCell]; omega)) (by first | omega | (simp [World.setCell]; done) | (simp [World.setCell]; omega)), HB3.out.setCell (by first | omega | (simp; done) | (simp; omega)) _⟩

theorem ownsRow_setCell {w : World} {base e size n : Nat} {v : Value} {xs : List Value} (h : w.ownsRow base e size v n xs) {p : Addr} (hp : p.block < base) (u : Value) : (w.setCell p u).ownsRow base e size v n xs := by
 refine h.kept (row := some p.block) ⟨rfl, rfl, rfl, by simp [World.setCell], fun k hk hne => Below.heap_setCell _ _ _ _ (fun e => hne (by rw [e]))⟩ ?_
 rcases hv : v.ownBlock with _ | k
 ·exact .inl rfl
 ·refine .inr (fun e => ?_)
  have := (h.lt k hv).1
  cases e
  omega
theorem cell_alloc_old (w : World) (o : Obj) {k off : Nat} {v : Value} (h : w.cell? ⟨k, off, none⟩ = some v) : (w.alloc o).cell? ⟨k, off, none⟩ = some v :=
 (((Below.refl w.heap.size w).alloc (Nat.le_refl _) o).cell (p := ⟨k, off, none⟩) (World.block_lt_of_cell? w ⟨k, off, none⟩ h)).trans h
theorem froz_alloc_old (w : World) (o : Obj) {k off : Nat} {v : Value} {b : Bool} (h : w.cell? ⟨k, off, none⟩ = some v) (hf : w.frozen? ⟨k, off, none⟩ = b) : (w.alloc o).frozen? ⟨k, off, none⟩ = b :=
 (((Below.refl w.heap.size w).alloc (Nat.le_refl _) o).frozen (p := ⟨k, off, none⟩) (World.block_lt_of_cell? w ⟨k, off, none⟩ h)).trans hf
theorem one_new (w : World) (v : Value) (e : TypeId) : ∀ (j : Nat) (u : Value), [v][j]? = some u → (w.alloc (.cells #[v] e)).cell? ((⟨w.heap.size, 0, none⟩ : Addr).add j) = some u := by
 intro j u hj
 rcases j with _ | j
 ·cases hj
  rw [Addr.add_lit, cell_of_row _ _ _ _ _ _ (heap_alloc_new w _)]
  rfl
 ·simp at hj
theorem strs_snoc {l : List ByteArray} {k : Nat} {s : ByteArray} (h : l[k]? = some s) : strs (l.take k) ++ [.string s] = strs (l.take (k + 1)) := by
 rw [take_succ h, strs, strs, List.map_append]; rfl
theorem own_ne {w : World} {base e size n B : Nat} {v : Value} {xs : List Value} (h : w.ownsRow base e size v n xs) (hB : B < base) : some B ≠ v.ownBlock := fun e1 => by
 have := (h.lt B e1.symm).1; omega
/-- the string that the reference lays at a place -/
def putAt (x : Wri) (k : Nat) (s : ByteArray) : ByteArray := if (k : Int) = x.file then cutPut s x.pos x.text else s
theorem putL_get {l : List ByteArray} {x : Wri} {k : Nat} {s : ByteArray} (h0 : 0 ≤ x.file) (h : l[k]? = some s) : (putL l x)[k]? = some (putAt x k s) := by
 rw [putL, List.getElem?_set, putAt]
 have hk := (List.getElem?_eq_some_iff.1 h).1
 by_cases e : x.file.toNat = k
 ·rw [if_pos e, if_pos (by omega), if_pos (by omega)]
  rw [e]; simp [List.getD, h]
 ·rw [if_neg e, if_neg (by omega), h]

set_option maxRecDepth 100000 in
set_option maxHeartbeats 400000 in
theorem specPut_c (A : Option Addr) (c lo hi n : Nat) (l : List ByteArray) (x : Wri) (w : World) (hr : Rd w lo hi A (strs l)) (hn : l.length = n) (hl : n ≤ 1048576) (hf : x.fits) :
  Calls Try.prog 35 #[.agg #[.slice A n c], .agg #[.int .i64 x.file, .int .i64 x.pos, .string x.text]] w fun e w' => ∃ (A' : Option Addr) (c' : Nat), e = .returned (.tuple #[.agg #[.slice A' (putM l x).length c'], .bool (writeOk l x)]) ∧ Own w' w.heap.size w'.heap.size A' (strs (putM l x)) ∧ Below w.heap.size w w' := by
 have HF := Lib.hid hf
 have HN := Lib.hid hn
 obtain ⟨file, pos, text⟩ := x
 clear hf hn
 go_enter Try.func35, Try.ntmps35
 go_wp2_with fail
 refine (specWriteOk_c A c _ _ n l ⟨file, pos, text⟩ _ (((hr.alloc _).alloc _).alloc _) HN.out hl HF.out).mono ?_
 rintro e w1 ⟨rfl, hb1⟩
 have hx0 : w1.cell? ⟨w.heap.size, 0, none⟩ = some (.slice A n c) := cell_later hb1 (by go_simp)
 have hy0 : w1.cell? ⟨w.heap.size + 1, 0, none⟩ = some (.int .i64 file) := cell_later hb1 (by go_simp)
 have hy1 : w1.cell? ⟨w.heap.size + 1, 1, none⟩ = some (.int .i64 pos) := cell_later hb1 (by go_simp)
 have hy2 : w1.cell? ⟨w.heap.size + 1, 2, none⟩ = some (.string text) := cell_later hb1 (by go_simp)
 have hz0 : w1.cell? ⟨w.heap.size + 2, 0, none⟩ = some (.slice none 0 0) := cell_later hb1 (by go_simp)
 have hzf : w1.frozen? ⟨w.heap.size + 2, 0, none⟩ = false := (hb1.frozen (p := ⟨w.heap.size + 2, 0, none⟩) (by simp)).trans (by go_simp)
 have hq : w.heap.size + 2 < w1.heap.size := by have := hb1.size; simp at this; omega
 have hqa : w.heap.size + 1 < w1.heap.size := by omega
 have hqc : w.heap.size < w1.heap.size := by omega
 have HB1 : Hid (Below w.heap.size w w1) := below_then ((((Below.refl _ _).alloc (Nat.le_refl _) _).alloc (by first | omega | (simp; done) | (simp; omega)) _).alloc (by first | omega | (simp; done) | (simp; omega)) _) hb1 (by first | omega | (simp; done) | (simp; omega))
 clear hb1
 rcases h1 : writeOk l ⟨file, pos, text⟩ with _ | _
 ·have H1 := Lib.hid h1
  clear h1
  have hpm : Hid (putM l ⟨file, pos, text⟩ = []) := by rw [Hid, putM, H1.out]; rfl
  go_wp2
  refine bodyPost_ret (v := .tuple #[.agg #[.slice none 0 0], .bool false]) (by simp [results, Try.results35, go_sem, World.cell?_setCell_same _ _ _ hz0]) rfl ?_
  exact ⟨none, 0, by rw [hpm.out, H1.out]; rfl, by rw [hpm.out]; exact Own.nil, HB1.out.setCell (by first | omega | (simp; done) | (simp; omega)) _⟩
 ·have H1 := Lib.hid h1
  clear h1
  obtain ⟨hd, hft⟩ := writeOk_fits H1.out
  obtain ⟨kf, sf, hk, hks, hp1, hp2, hp3⟩ := fitsD_all hft
  have hn3 := diskOk_len hd
  have hall := Lib.hid (diskOk_all hd)
  simp only at hk hp1 hp2 hp3
  obtain ⟨ps, rfl⟩ : ∃ ps : Nat, pos = ps := ⟨pos.toNat, by omega⟩
  obtain ⟨i0, hi0, hz00, hz10, hz20⟩ := info_parts info_string
  have hr1 := hr.below HB1.out
  have HP : Hid (putM l ⟨file, ps, text⟩ = putL l ⟨file, ps, text⟩) := by rw [Hid, putM, H1.out, if_pos rfl]
  have HKF := Lib.hid hks
  have HFK := Lib.hid hk
  have hpl : Hid ((putL l ⟨file, ps, text⟩).length = n) := by rw [Hid, putL_len, HN.out]
  clear hr hd hft hks hk
  go_wp2
  go_loopw [7] (fun i wr => ∃ (k : Nat) (v : Value), k ≤ n ∧ i = .int .i64 k ∧ wr.cell? ⟨w1.heap.size, 0, none⟩ = some v ∧ wr.frozen? ⟨w1.heap.size, 0, none⟩ = false ∧
   wr.ownsRow (w1.heap.size + 1) 9 1 v k (strs ((putL l ⟨file, ps, text⟩).take k)) ∧ Below w1.heap.size w1 wr ∧ w1.heap.size < wr.heap.size) (fun i _ => n - (intOf i).toNat)
  case atStart => exact ⟨0, _, Nat.zero_le _, rfl, by go_simp, by go_simp, World.ownsRow_nil _ _ _ _, (Below.refl _ _).alloc (Nat.le_refl _) _, by simp⟩
  case round =>
   obtain ⟨k, v, hk, rfl, hv0, hvf, hown, hbr, hzr⟩ := hrel
   have hx0' := cell_later hbr hx0
   have hy0' := cell_later hbr hy0
   have hy1' := cell_later hbr hy1
   have hy2' := cell_later hbr hy2
   have hz0' := cell_later hbr hz0
   have hzf' := froz_later hbr hz0 hzf
   have hra : w.heap.size + 1 < wr.heap.size := by omega
   have hrb : w.heap.size + 2 < wr.heap.size := by omega
   have hrc : w.heap.size < wr.heap.size := by omega
   have HBR := Lib.hid hbr
   obtain ⟨A0, c0, rfl, _, _, _⟩ := ownsRow_slice hown
   have HOW := Lib.hid hown
   by_cases hlt : k < n
   ·obtain ⟨b, off, s, rfl, hb, hsk, hc⟩ := (hr1.below hbr).str (k := k) (by rw [HN.out]; exact hlt)
    have hs3 := hall.out s (List.mem_of_getElem? hsk)
    have hI1 : (0 : Int) ≤ (k : Int) := by omega
    have hI2 : (k : Int) < (n : Int) := by omega
    have HSK := Lib.hid hsk
    have hnx := Lib.hid (putL_get (x := ⟨file, ps, text⟩) (l := l) (k := k) (by have := HFK.out; simp only; omega) hsk)
    clear hr1 hbr hown hsk hx0 hy0 hy1 hy2 hz0 hzf
    rcases hkf : ((k : Int) == file) with _ | _
    ·have hat : Hid (putAt ⟨file, ps, text⟩ k s = s) := by rw [Hid, putAt, if_neg (by simpa using hkf)]
     go_wp2_with (at_builtin; refine wpList_append_own _ rfl _ _ 24 rfl (w1.heap.size + 1) 9 i0 (.string ByteArray.empty) 1 16 Try.underlying24 hi0 hz00 hz10 hz20 rfl (by decide) _ k _ rfl (HOW.out.alloc _) ⟨wr.heap.size, 0, none⟩ 1 1 [.string s] rfl rfl (one_new wr _ _) (by intro u hu; rw [List.mem_singleton.1 hu]; rfl) (by unfold maxLen; omega) (by omega) (by first | omega | (simp; done) | (simp; omega)) ?_)
     intro v2 w2 hown2 hg2 _
     obtain ⟨A2, c2, rfl, _, _, _⟩ := ownsRow_slice hown2
     have hne := own_ne HOW.out (Nat.lt_succ_self w1.heap.size)
     have hv2 : w2.cell? ⟨w1.heap.size, 0, none⟩ = some (.slice A0 k c0) := hg2.cell (a := ⟨w1.heap.size, 0, none⟩) (cell_alloc_old (wr) _ hv0) hne
     have hvf2 : w2.frozen? ⟨w1.heap.size, 0, none⟩ = false := (World.frozen?_of_block (hg2.block w1.heap.size (by first | omega | (simp; done) | (simp; omega)) hne)).trans (froz_alloc_old (wr) _ hv0 hvf)
     rw [← hat.out, strs_snoc hnx.out] at hown2
     have HO2 := Lib.hid hown2
     have HB2 := Lib.hid ((HBR.out.alloc (Nat.le_of_lt hzr) _).grown hg2 (by have := HBR.out.size; simp; omega) (fun j hj => by have := (HOW.out.lt j hj).1; omega))
     have hz2 : w1.heap.size < w2.heap.size := by have := hg2.size; simp at this; omega
     clear hown2 hg2 HOW
     go_wp2
     go_roundw
     case rel => exact ⟨k + 1, _, by omega, by go_num, World.cell?_setCell_same _ _ _ hv2, by simpa using hvf2, ownsRow_setCell HO2.out (by simp) _, HB2.out.setCell (Nat.le_refl _) _, by simpa [World.setCell] using hz2⟩
     case measure => simp [intOf]; omega
    ·have hke : (k : Int) = file := by simpa using hkf
     have hkk : kf = k := by have := HFK.out; omega
     subst hke
     have hss : sf = s := by have h1 := HKF.out; rw [hkk] at h1; exact Option.some.inj (h1.symm.trans HSK.out)
     subst hss
     have hat : Hid (putAt ⟨(k : Int), ps, text⟩ k sf = sf.extract 0 ps ++ text) := by rw [Hid, putAt, if_pos rfl]; rfl
     have hesz : (sf.extract 0 ps).size = ps := by rw [ByteArray.size_extract]; omega
     have hadd : (sf.extract 0 ps).size + text.size ≤ maxLen := by unfold maxLen; omega
     have hcat := fun (W : World) => run_string_add_sum (P := Try.prog) W (sf.extract 0 ps) text hadd
     have hcat2 : ¬ (9223372036854775807 : Int) < (ps : Int) + (text.size : Int) := by omega
     go_wp2_with fail
     go_quiet (fail)
     replace HBR : Hid (Below w1.heap.size w1 (wr.drewN nq)) := ⟨HBR.out.os, HBR.out.tape, HBR.out.output, HBR.out.size, HBR.out.block⟩
     replace HOW : Hid ((wr.drewN nq).ownsRow (w1.heap.size + 1) 9 1 (.slice A0 k c0) k (strs ((putL l ⟨(k : Int), ps, text⟩).take k))) := HOW.out
     go_wp2_with (at_builtin; refine wpList_append_own _ rfl _ _ 24 rfl (w1.heap.size + 1) 9 i0 (.string ByteArray.empty) 1 16 Try.underlying24 hi0 hz00 hz10 hz20 rfl (by decide) _ k _ rfl (HOW.out.alloc _) ⟨(wr.drewN nq).heap.size, 0, none⟩ 1 1 [.string (sf.extract 0 ps ++ text)] rfl rfl (one_new (wr.drewN nq) _ _) (by intro u hu; rw [List.mem_singleton.1 hu]; rfl) (by unfold maxLen; omega) (by omega) (by first | omega | (simp; done) | (simp; omega)) ?_)
     intro v2 w2 hown2 hg2 _
     obtain ⟨A2, c2, rfl, _, _, _⟩ := ownsRow_slice hown2
     have hne := own_ne HOW.out (Nat.lt_succ_self w1.heap.size)
     have hv2 : w2.cell? ⟨w1.heap.size, 0, none⟩ = some (.slice A0 k c0) := hg2.cell (a := ⟨w1.heap.size, 0, none⟩) (cell_alloc_old ((wr.drewN nq)) _ hv0) hne
     have hvf2 : w2.frozen? ⟨w1.heap.size, 0, none⟩ = false := (World.frozen?_of_block (hg2.block w1.heap.size (by first | omega | (simp; done) | (simp; omega)) hne)).trans (froz_alloc_old ((wr.drewN nq)) _ hv0 hvf)
     rw [← hat.out, strs_snoc hnx.out] at hown2
     have HO2 := Lib.hid hown2
     have HB2 := Lib.hid ((HBR.out.alloc (Nat.le_of_lt hzr) _).grown hg2 (by have := HBR.out.size; simp; omega) (fun j hj => by have := (HOW.out.lt j hj).1; omega))
     have hz2 : w1.heap.size < w2.heap.size := by have := hg2.size; simp at this; omega
     clear hown2 hg2 HOW
     go_wp2
     go_roundw
     case rel => exact ⟨k + 1, _, by omega, by go_num, World.cell?_setCell_same _ _ _ hv2, by simpa using hvf2, ownsRow_setCell HO2.out (by simp) _, HB2.out.setCell (Nat.le_refl _) _, by simpa [World.setCell] using hz2⟩
     case measure => simp [intOf]; omega
   ·obtain rfl : k = n := by omega
    clear hr1 hbr hown hx0 hy0 hy1 hy2 hz0 hzf
    have e1 : (putL l ⟨file, ps, text⟩).take k = putL l ⟨file, ps, text⟩ := List.take_of_length_le (by rw [hpl.out]; exact Nat.le_refl _)
    rw [e1] at HOW
    go_wp2
    refine bodyPost_ret (v := .tuple #[.agg #[.slice A0 k c0], .bool true]) (by simp [results, Try.results35, go_sem, World.cell?_setCell_same _ _ _ hz0']) rfl ?_
    exact ⟨A0, c0, by rw [HP.out, hpl.out, H1.out], by rw [HP.out]; exact ((Own.of_ownsRow HOW.out).setCell (.inl (by first | omega | (simp; done) | (simp; omega))) _).mono (by first | omega | (simp; done) | (simp; omega)) (by first | omega | (simp [World.setCell]; done) | (simp [World.setCell]; omega)) (by first | omega | (simp [World.setCell]; done) | (simp [World.setCell]; omega)), (below_then HB1.out HBR.out HB1.out.size).setCell (by first | omega | (simp; done) | (simp; omega)) _⟩
end Go.Proofs.Ytoccjgcokffkbaa
