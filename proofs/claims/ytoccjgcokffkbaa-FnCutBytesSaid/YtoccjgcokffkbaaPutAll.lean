/- PutAll: the plain law of it. -/
import Derived.Test.YtoccjgcokffkbaaPut
import Derived.Test.YtoccjgcokffkbaaApp
import Derived.Test.YtoccjgcokffkbaaReg
namespace Go.Proofs.Ytoccjgcokffkbaa
set_option linter.unusedVariables false
set_option linter.unusedSimpArgs false
open Go.RowKit

/-- writes one behind the other, as long as each fits: the files, and how many fitted -/
def putAllL : List ByteArray → List Wri → List ByteArray
 | d, [] => d
 | d, x :: r => if fitsD d x then putAllL (putL d x) r else d
def putAllN : List ByteArray → List Wri → Nat
 | _, [] => 0
 | d, x :: r => if fitsD d x then putAllN (putL d x) r + 1 else 0
theorem dropW {l : List Wri} {k : Nat} {x : Wri} (h : l[k]? = some x) : l.drop k = x :: l.drop (k + 1) := by
 obtain ⟨hk, he⟩ := List.getElem?_eq_some_iff.1 h
 rw [List.drop_eq_getElem_cons hk, he]
theorem cutPut_size {s text : ByteArray} {pos : Int} (h1 : 0 ≤ pos) (h2 : pos ≤ (s.size : Nat)) (h3 : (text.size : Int) ≤ 300000 - pos) : (cutPut s pos text).size ≤ 300000 := by
 rw [cutPut, ByteArray.size_append, ByteArray.size_extract]; omega
theorem putL_all {l : List ByteArray} {x : Wri} (h : ∀ s ∈ l, s.size ≤ 300000) (hf : fitsD l x = true) : ∀ s ∈ putL l x, s.size ≤ 300000 := by
 obtain ⟨k, s0, hk, hs, h1, h2, h3⟩ := fitsD_all hf
 rw [putL_eq hk hs]
 intro s hm
 rcases List.mem_or_eq_of_mem_set hm with hm | rfl
 ·exact h s hm
 ·exact cutPut_size h1 h2 h3

def putAllM (l : List ByteArray) (ws : List Wri) : List ByteArray := if diskOk l && decide (ws.length ≤ 600) then putAllL l ws else []
def putAllK (l : List ByteArray) (ws : List Wri) : Int := if diskOk l && decide (ws.length ≤ 600) then (putAllN l ws : Nat) else 0
theorem putAllL_len : ∀ (ws : List Wri) (l : List ByteArray), (putAllL l ws).length = l.length
 | [], _ => rfl
 | x :: r, l => by
   rw [putAllL]
   split
   ·rw [putAllL_len r, putL_len]
   ·rfl

set_option maxRecDepth 100000 in
set_option maxHeartbeats 400000 in
theorem implPutAll_c (A : Option Addr) (c lo hi n : Nat) (l : List ByteArray) (B : Option Addr) (g lo' hi' m : Nat) (ws : List Wri) (w : World) (hr : Rd w lo hi A (strs l)) (hn : l.length = n) (hl : n ≤ 1048576)
  (hr' : Rd w lo' hi' B (wris ws)) (hm : ws.length = m) (hml : m ≤ 1048576) (hf : ∀ x ∈ ws, x.fits) :
  Calls Try.prog 10 #[.agg #[.slice A n c], .slice B m g] w fun e w' => ∃ (A' : Option Addr) (c' : Nat), e = .returned (.tuple #[.agg #[.slice A' (putAllM l ws).length c'], .int .i64 (putAllK l ws)]) ∧ Own w' w.heap.size w'.heap.size A' (strs (putAllM l ws)) ∧ Below w.heap.size w w' := by
 have HF := Lib.hid hf
 have HN := Lib.hid hn
 have HM := Lib.hid hm
 clear hf hn hm
 go_enter Try.func10, Try.ntmps10
 go_wp2_with fail
 refine (implDiskOk_c A c _ _ n l _ ((hr.alloc _).alloc _) HN.out hl).mono ?_
 rintro e w1 ⟨rfl, hb1⟩
 have hx0 : w1.cell? ⟨w.heap.size, 0, none⟩ = some (.slice A n c) := cell_later hb1 (by go_simp)
 have hz0 : w1.cell? ⟨w.heap.size + 1, 0, none⟩ = some (.slice none 0 0) := cell_later hb1 (by go_simp)
 have hzf : w1.frozen? ⟨w.heap.size + 1, 0, none⟩ = false := (hb1.frozen (p := ⟨w.heap.size + 1, 0, none⟩) (by simp)).trans (by go_simp)
 have hq : w.heap.size + 1 < w1.heap.size := by have := hb1.size; simp at this; omega
 have hqc : w.heap.size < w1.heap.size := by omega
 have HB1 : Hid (Below w.heap.size w w1) := below_then (((Below.refl _ _).alloc (Nat.le_refl _) _).alloc (by first | omega | (simp; done) | (simp; omega)) _) hb1 (by first | omega | (simp; done) | (simp; omega))
 clear hb1
 rcases h1 : diskOk l with _ | _
 ·have hpm : Hid (putAllM l ws = []) := by rw [Hid, putAllM, h1]; rfl
  have hpk : Hid (putAllK l ws = 0) := by rw [Hid, putAllK, h1]; rfl
  clear h1
  go_wp2
  refine bodyPost_ret (v := .tuple #[.agg #[.slice none 0 0], .int .i64 0]) (by simp [results, Try.results10, go_sem, World.cell?_setCell_same _ _ _ hz0]) rfl ?_
  exact ⟨none, 0, by rw [hpm.out, hpk.out]; rfl, by rw [hpm.out]; exact Own.nil, HB1.out.setCell (by first | omega | (simp; done) | (simp; omega)) _⟩
 ·have H1 := Lib.hid h1
  clear h1
  rcases (show 600 < m ∨ m ≤ 600 by omega) with h6 | h6
  ·have hpm : Hid (putAllM l ws = []) := by rw [Hid, putAllM, H1.out, HM.out]; simp; omega
   have hpk : Hid (putAllK l ws = 0) := by rw [Hid, putAllK, H1.out, HM.out]; simp; omega
   go_wp2
   refine bodyPost_ret (v := .tuple #[.agg #[.slice none 0 0], .int .i64 0]) (by simp [results, Try.results10, go_sem, World.cell?_setCell_same _ _ _ hz0]) rfl ?_
   exact ⟨none, 0, by rw [hpm.out, hpk.out]; rfl, by rw [hpm.out]; exact Own.nil, HB1.out.setCell (by first | omega | (simp; done) | (simp; omega)) _⟩
  ·have hn3 := diskOk_len H1.out
   have hA : A ≠ none := by
    rintro rfl
    obtain ⟨b, off, h, _⟩ := hr (by intro e; rw [strs, List.map_eq_nil_iff] at e; subst e; simp at hn3)
    cases h
   have hpm : Hid (putAllM l ws = putAllL l ws) := by rw [Hid, putAllM, H1.out, HM.out]; simp [h6]
   have hpk : Hid (putAllK l ws = (putAllN l ws : Nat)) := by rw [Hid, putAllK, H1.out, HM.out]; simp [h6]
   have hpl : Hid ((putAllL l ws).length = n) := by rw [Hid, putAllL_len, HN.out]
   go_wp2_with fail
   refine (copyDisk_c A c _ _ n l _ (hr.below HB1.out) HN.out hl (fun h => absurd h hA)).mono ?_
   rintro e w2 ⟨A2, c2, rfl, hc1, hc2, ho2, hb2⟩
   obtain ⟨b2, off2, rfl, g1, g2, _⟩ := ho2 (by intro e; rw [strs, List.map_eq_nil_iff] at e; subst e; simp at hn3)
   have hz0' := cell_later hb2 hz0
   have hzf' := froz_later hb2 hz0 hzf
   have hq' : w1.heap.size ≤ w2.heap.size := hb2.size
   have hqa : w.heap.size + 1 < w2.heap.size := by omega
   have HB2 := Lib.hid (below_then HB1.out hb2 HB1.out.size)
   have HO2 := Lib.hid ho2.tight
   have HR' := Lib.hid hr'
   clear hx0 hz0 hzf hb2 ho2 hr hr'
   go_wp2
   go_loopw [22] (fun i wr => ∃ (k : Nat) (d : List ByteArray), k ≤ m ∧ i = .int .i64 k ∧ d.length = n ∧ (∀ s ∈ d, s.size ≤ 300000) ∧ putAllL l ws = putAllL d (ws.drop k) ∧ putAllN l ws = k + putAllN d (ws.drop k) ∧
    wr.cell? ⟨w2.heap.size, 0, none⟩ = some (.slice (some ⟨b2, off2, none⟩) n c2) ∧ wr.cell? ⟨w.heap.size + 1, 0, none⟩ = some (.slice none 0 0) ∧ wr.frozen? ⟨w.heap.size + 1, 0, none⟩ = false ∧
    Own wr b2 (b2 + 1) (some ⟨b2, off2, none⟩) (strs d) ∧ Below w.heap.size w wr ∧ w2.heap.size < wr.heap.size) (fun i _ => m - (intOf i).toNat)
   case atStart => exact ⟨0, l, Nat.zero_le _, rfl, HN.out, diskOk_all H1.out, rfl, by rw [List.drop_zero, Nat.zero_add], by go_simp, cell_alloc_old _ _ hz0', froz_alloc_old _ _ hz0' hzf', HO2.out.alloc _, HB2.out.alloc HB2.out.size _, by simp⟩
   case round =>
    obtain ⟨k, d, hk, rfl, hdn, hds, hpL, hpN, hp6, hz4, hz4f, how, hbr, hzr⟩ := hrel
    have HDN := Lib.hid hdn
    have HDS := Lib.hid hds
    have HPL := Lib.hid hpL
    have HPN := Lib.hid hpN
    have HOW := Lib.hid how
    have HBR := Lib.hid hbr
    have hra : w.heap.size + 1 < wr.heap.size := by omega
    clear hdn hds hpL hpN how
    by_cases hlt : k < m
    ·obtain ⟨b, off, x, rfl, _, _, hb, hks, hcell⟩ := (HR'.out.below hbr).flat (f := Wri.cells) (m := 3) (fun _ => rfl) (by omega) (k := k) (by rw [HM.out]; exact hlt)
     have hc0 : wr.cell? ⟨b, off + k * 3, none⟩ = some (.int .i64 x.file) := hcell 0 _ rfl
     have hcc1 : wr.cell? ⟨b, off + k * 3 + 1, none⟩ = some (.int .i64 x.pos) := hcell 1 _ rfl
     have hcc2 : wr.cell? ⟨b, off + k * 3 + 2, none⟩ = some (.string x.text) := hcell 2 _ rfl
     have HX := Lib.hid (HF.out x (List.mem_of_getElem? hks))
     have HDR := Lib.hid (dropW hks)
     have HK := Lib.hid hks
     clear hcell hks hbr
     go_wp2_with fail
     refine (fits_c _ c2 _ _ n d x _ (HOW.out.rd.alloc _) HDN.out hl HX.out HDS.out).mono ?_
     rintro e w3 ⟨rfl, hb3⟩
     have hp63 := cell_later hb3 (cell_alloc_old wr _ hp6)
     have hz43 := cell_later hb3 (cell_alloc_old wr _ hz4)
     have hz4f3 := froz_later hb3 (cell_alloc_old wr _ hz4) (froz_alloc_old wr _ hz4 hz4f)
     have hd0 : w3.cell? ⟨wr.heap.size, 0, none⟩ = some (.int .i64 x.file) := cell_later hb3 (by go_simp)
     have hd1 : w3.cell? ⟨wr.heap.size, 1, none⟩ = some (.int .i64 x.pos) := cell_later hb3 (by go_simp)
     have hd2 : w3.cell? ⟨wr.heap.size, 2, none⟩ = some (.string x.text) := cell_later hb3 (by go_simp)
     have hz3 : wr.heap.size < w3.heap.size := by have := hb3.size; simp at this; omega
     have hz3a : w2.heap.size < w3.heap.size := by omega
     have hz3b : w.heap.size + 1 < w3.heap.size := by omega
     have HB3 : Hid (Below w.heap.size w w3) := below_then (HBR.out.alloc HBR.out.size _) hb3 (by have := HBR.out.size; simp; omega)
     have HO3 := Lib.hid ((HOW.out.alloc _).below hb3)
     clear hb3 hc0 hcc1 hcc2 hp6 hz4 hz4f HOW
     rcases h7 : fitsD d x with _ | _
     ·have e1 : Hid (putAllL l ws = d) := by rw [Hid, HPL.out, HDR.out, putAllL, h7]; rfl
      have e2 : Hid (putAllN l ws = k) := by rw [Hid, HPN.out, HDR.out, putAllN, h7]; rfl
      clear h7
      go_wp2
      refine bodyPost_ret (v := .tuple #[.agg #[.slice (some ⟨b2, off2, none⟩) n c2], .int .i64 k]) (by simp [results, Try.results10, go_sem, World.cell?_setCell_same _ _ _ hz43]) rfl ?_
      exact ⟨some ⟨b2, off2, none⟩, c2, by rw [hpm.out, hpk.out, hpl.out, e2.out], by rw [hpm.out, e1.out]; exact (HO3.out.setCell (.inl (by first | omega | (simp; done) | (simp; omega))) _).mono (by first | omega | (simp; done) | (simp; omega)) (by first | omega | (simp [World.setCell]; done) | (simp [World.setCell]; omega)) (by first | omega | (simp [World.setCell]; done) | (simp [World.setCell]; omega)), HB3.out.setCell (by first | omega | (simp; done) | (simp; omega)) _⟩
     ·have H7 := Lib.hid h7
      clear h7
      obtain ⟨kf, sf, hkf, hsf, hp1, hp2, hp3⟩ := fitsD_all H7.out
      have HKF := Lib.hid hkf
      clear hkf
      go_wp2_with fail
      refine (put_c w2.heap.size b2 off2 c2 _ _ n kf d x sf _ hp63 hz3a HO3.out HDN.out hl HX.out HKF.out hsf hp1 hp2 hp3).mono ?_
      rintro e w4 ⟨rfl, ho4, hO4⟩
      have hp64 := cell_only ho4 hp63 (by omega)
      have hz44 := cell_only ho4 hz43 (by omega)
      have hz4f4 := froz_only ho4 hz43 hz4f3 (by omega)
      have HB4 := Lib.hid (below_only HB3.out ho4 (by omega) (by first | omega | (simp; done) | (simp; omega)))
      have hz4 : w3.heap.size ≤ w4.heap.size := ho4.size
      have hz4a : w2.heap.size < w4.heap.size := by omega
      rw [← putL_eq HKF.out hsf] at hO4
      have HO4 := Lib.hid hO4
      have e1 : Hid (putAllL l ws = putAllL (putL d x) (ws.drop (k + 1))) := by rw [Hid, HPL.out, HDR.out, putAllL, H7.out]; rfl
      have e2 : Hid (putAllN l ws = k + 1 + putAllN (putL d x) (ws.drop (k + 1))) := by rw [Hid, HPN.out, HDR.out, putAllN, H7.out, if_pos rfl]; omega
      have e3 := Lib.hid (putL_all HDS.out H7.out)
      have e4 : Hid ((putL d x).length = n) := by rw [Hid, putL_len, HDN.out]
      clear ho4 hO4 hp63 hz43 hz4f3
      go_wp2
      go_roundw
      case rel => exact ⟨k + 1, putL d x, by omega, by go_num, e4.out, e3.out, e1.out, e2.out, hp64, hz44, hz4f4, HO4.out, HB4.out, hz4a⟩
      case measure => simp [intOf]; omega
    ·obtain rfl : k = m := by omega
     have hdr : ws.drop k = [] := List.drop_eq_nil_of_le (by rw [HM.out]; exact Nat.le_refl _)
     have e1 : Hid (putAllL l ws = d) := by rw [Hid, HPL.out, hdr]; rfl
     have e2 : Hid (putAllN l ws = k) := by rw [Hid, HPN.out, hdr]; rfl
     clear hbr hdr
     go_wp2
     refine bodyPost_ret (v := .tuple #[.agg #[.slice (some ⟨b2, off2, none⟩) n c2], .int .i64 k]) (by simp [results, Try.results10, go_sem, World.cell?_setCell_same _ _ _ hz4]) rfl ?_
     exact ⟨some ⟨b2, off2, none⟩, c2, by rw [hpm.out, hpk.out, hpl.out, e2.out], by rw [hpm.out, e1.out]; exact (HOW.out.setCell (.inl (by first | omega | (simp; done) | (simp; omega))) _).mono (by first | omega | (simp; done) | (simp; omega)) (by first | omega | (simp [World.setCell]; done) | (simp [World.setCell]; omega)) (by first | omega | (simp [World.setCell]; done) | (simp [World.setCell]; omega)), HBR.out.setCell (by first | omega | (simp; done) | (simp; omega)) _⟩

theorem diskOk_of {l : List ByteArray} (h1 : l.length = 3) (h2 : ∀ s ∈ l, s.size ≤ 300000) : diskOk l = true := by
 rw [diskOk, filesOk, Bool.and_eq_true]
 exact ⟨by simpa using h1, by simpa [List.all_eq_true] using h2⟩
theorem putL_fit {d : List ByteArray} {x : Wri} (h : writeOk d x = true) : putM d x = putL d x := by rw [putM, if_pos h]
end Go.Proofs.Ytoccjgcokffkbaa
