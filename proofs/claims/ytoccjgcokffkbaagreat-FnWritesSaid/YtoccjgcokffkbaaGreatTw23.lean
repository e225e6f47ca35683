/- Part 23 of the proof of FnWrites: lemmas and contracts. -/
import Derived.Test.YtoccjgcokffkbaaGreatTw22
namespace Go.Proofs.YtoccjgcokffkbaaGreat
set_option linter.unusedVariables false
set_option linter.unusedSimpArgs false
set_option maxHeartbeats 20000000
set_option maxRecDepth 100000
section
open Go.RowKit
def eG : List ByteArray → List Wri → List ByteArray
 | d, [] => d
 | d, x :: r => if fitsD d x then eG (putL d x) r else d
def gm : List ByteArray → List Wri → Nat
 | _, [] => 0
 | d, x :: r => if fitsD d x then gm (putL d x) r + 1 else 0
theorem dropW {l : List Wri} {k : Nat} {x : Wri} (h : l[k]? = some x) : l.drop k = x :: l.drop (k + 1) := by
 obtain ⟨hk, he⟩ := List.getElem?_eq_some_iff.1 h
 rw [List.drop_eq_getElem_cons hk, he]
theorem cutPut_size {s text : ByteArray} {pos : Int} (h1 : 0 ≤ pos) (h2 : pos ≤ (s.size : Nat)) (h3 : (text.size : Int) ≤ 300000 - pos) : (cutPut s pos text).size ≤ 300000 := by
 rw [cutPut, ByteArray.size_append, ByteArray.size_extract]; omega
theorem putL_all {l : List ByteArray} {x : Wri} (h : ∀ s ∈ l, s.size ≤ 300000) (hf : fitsD l x = true) : ∀ s ∈ putL l x, s.size ≤ 300000 := by
 obtain ⟨k, s0, hk, hs, h1, h2, h3⟩ := fitsD_all hf
 rw [putL_eq hk hs]
 intro s hm
 rcases List.mem_or_eq_of_mem_set hm with hm | rfl
 ·exact h s hm
 exact cutPut_size h1 h2 h3
def gW (l : List ByteArray) (ws : List Wri) : List ByteArray := if iA l && decide (ws.length ≤ 600) then eG l ws else []
def putAllK (l : List ByteArray) (ws : List Wri) : Int := if iA l && decide (ws.length ≤ 600) then (gm l ws : Nat) else 0
theorem putAllL_len : ∀ (ws : List Wri) (l : List ByteArray), (eG l ws).length = l.length
 | [], _ => rfl
 | x :: r, l => by
   rw [eG]
   split
   ·rw [putAllL_len r, putL_len]
   rfl
theorem implPutAll_c (A : Option Addr) (c lo hi n : Nat) (l : List ByteArray) (B : Option Addr) (g lo' hi' m : Nat) (ws : List Wri) (w : World) (hr : Rd w lo hi A (strs l)) (hn : l.length = n) (hl : n ≤ 1048576)
  (hr' : Rd w lo' hi' B (gM ws)) (hm : ws.length = m) (hml : m ≤ 1048576) (hf : ∀ x ∈ ws, x.fits) :
  Calls Tryz.prog 26 #[.agg #[.slice A n c], .slice B m g] w fun e w' => ∃ (A' : Option Addr) (c' : Nat), e = .returned (.tuple #[.agg #[.slice A' (gW l ws).length c'], .int .i64 (putAllK l ws)]) ∧ Own w' w.heap.size w'.heap.size A' (strs (gW l ws)) ∧ Below w.heap.size w w' := by
 have HF := lH hf
 have HN := lH hn
 have HM := lH hm
 clear hf hn hm
 go_enter Tryz.func26, Tryz.ntmps26
 go_wp2_with fail
 refine (implDiskOk_c A c _ _ n l _ ((hr.alloc _).alloc _) HN.out hl).mono ?_
 rintro e w1 ⟨rfl, hb1⟩
 have hx0 : w1.cell? ⟨w.heap.size, 0, none⟩ = some (.slice A n c) := cell_later hb1 (by go_simp)
 have hz0 : w1.cell? ⟨w.heap.size + 1, 0, none⟩ = some (.slice none 0 0) := cell_later hb1 (by go_simp)
 have hzf : w1.frozen? ⟨w.heap.size + 1, 0, none⟩ = false := (hb1.frozen (p := ⟨w.heap.size + 1, 0, none⟩) (by simp)).trans (by go_simp)
 have hq : w.heap.size + 1 < w1.heap.size := by have := hb1.size; simp at this; omega
 have hqc : w.heap.size < w1.heap.size := by omega
 have HB1 : Hid (Below w.heap.size w w1) := aj (((Below.refl _ _).alloc (Nat.le_refl _) _).alloc (by first | omega | (simp; done) | (simp; omega)) _) hb1 (by first | omega | (simp; done) | (simp; omega))
 clear hb1
 rcases h1 : iA l with _ | _
 ·have hpm : Hid (gW l ws = []) := by rw [Hid, gW, h1]; rfl
  have hpk : Hid (putAllK l ws = 0) := by rw [Hid, putAllK, h1]; rfl
  clear h1; go_wp2
  refine bodyPost_ret (v := .tuple #[.agg #[.slice none 0 0], .int .i64 0]) (by simp [results, Tryz.results26, go_sem, World.cell?_setCell_same _ _ _ hz0]) rfl ?_
  exact ⟨none, 0, by rw [hpm.out, hpk.out]; rfl, by rw [hpm.out]; exact Own.nil, HB1.out.setCell (by first | omega | (simp; done) | (simp; omega)) _⟩
 have H1 := lH h1
 clear h1
 rcases (show 600 < m ∨ m ≤ 600 by omega) with h6 | h6
 ·have hpm : Hid (gW l ws = []) := by rw [Hid, gW, H1.out, HM.out]; simp; omega
  have hpk : Hid (putAllK l ws = 0) := by rw [Hid, putAllK, H1.out, HM.out]; simp; omega
  go_wp2
  refine bodyPost_ret (v := .tuple #[.agg #[.slice none 0 0], .int .i64 0]) (by simp [results, Tryz.results26, go_sem, World.cell?_setCell_same _ _ _ hz0]) rfl ?_
  exact ⟨none, 0, by rw [hpm.out, hpk.out]; rfl, by rw [hpm.out]; exact Own.nil, HB1.out.setCell (by first | omega | (simp; done) | (simp; omega)) _⟩
 have hn3 := diskOk_len H1.out
 have hA : A ≠ none := by
  rintro rfl
  obtain ⟨b, off, h, _⟩ := hr (by intro e; rw [strs, List.map_eq_nil_iff] at e; subst e; simp at hn3)
  cases h
 have hpm : Hid (gW l ws = eG l ws) := by rw [Hid, gW, H1.out, HM.out]; simp [h6]
 have hpk : Hid (putAllK l ws = (gm l ws : Nat)) := by rw [Hid, putAllK, H1.out, HM.out]; simp [h6]
 have hpl : Hid ((eG l ws).length = n) := by rw [Hid, putAllL_len, HN.out]
 go_wp2_with fail
 refine (copyDisk_c A c _ _ n l _ (hr.below HB1.out) HN.out hl (fun h => absurd h hA)).mono ?_
 rintro e w2 ⟨A2, c2, rfl, hc1, hc2, ho2, hb2⟩
 obtain ⟨b2, off2, rfl, g1, g2, _⟩ := ho2 (by intro e; rw [strs, List.map_eq_nil_iff] at e; subst e; simp at hn3)
 have hz0' := cell_later hb2 hz0
 have hzf' := froz_later hb2 hz0 hzf
 have hq' : w1.heap.size ≤ w2.heap.size := hb2.size
 have hqa : w.heap.size + 1 < w2.heap.size := by omega
 have HB2 := lH (aj HB1.out hb2 HB1.out.size)
 have HO2 := lH ho2.tight
 have HR' := lH hr'
 clear hx0 hz0 hzf hb2 ho2 hr hr'
 go_wp2
 go_loopw [22] (fun i wr => ∃ (k : Nat) (d : List ByteArray), k ≤ m ∧ i = .int .i64 k ∧ d.length = n ∧ (∀ s ∈ d, s.size ≤ 300000) ∧ eG l ws = eG d (ws.drop k) ∧ gm l ws = k + gm d (ws.drop k) ∧
  wr.cell? ⟨w2.heap.size, 0, none⟩ = some (.slice (some ⟨b2, off2, none⟩) n c2) ∧ wr.cell? ⟨w.heap.size + 1, 0, none⟩ = some (.slice none 0 0) ∧ wr.frozen? ⟨w.heap.size + 1, 0, none⟩ = false ∧
  Own wr b2 (b2 + 1) (some ⟨b2, off2, none⟩) (strs d) ∧ Below w.heap.size w wr ∧ w2.heap.size < wr.heap.size) (fun i _ => m - (intOf i).toNat)
 case atStart => exact ⟨0, l, Nat.zero_le _, rfl, HN.out, diskOk_all H1.out, rfl, by rw [List.drop_zero, Nat.zero_add], by go_simp, fC _ _ hz0', froz_alloc_old _ _ hz0' hzf', HO2.out.alloc _, HB2.out.alloc HB2.out.size _, by simp⟩
 case round =>
  obtain ⟨k, d, hk, rfl, hdn, hds, hpL, hpN, hp6, hz4, hz4f, how, hbr, hzr⟩ := hrel
  have HDN := lH hdn
  have HDS := lH hds
  have HPL := lH hpL
  have HPN := lH hpN
  have HOW := lH how
  have HBR := lH hbr
  have hra : w.heap.size + 1 < wr.heap.size := by omega
  clear hdn hds hpL hpN how
  by_cases hlt : k < m
  ·obtain ⟨b, off, x, rfl, _, _, hb, hks, hcell⟩ := (HR'.out.below hbr).flat (f := Wri.cells) (m := 3) (fun _ => rfl) (by omega) (k := k) (by rw [HM.out]; exact hlt)
   have hc0 : wr.cell? ⟨b, off + k * 3, none⟩ = some (.int .i64 x.file) := hcell 0 _ rfl
   have hcc1 : wr.cell? ⟨b, off + k * 3 + 1, none⟩ = some (.int .i64 x.pos) := hcell 1 _ rfl
   have hcc2 : wr.cell? ⟨b, off + k * 3 + 2, none⟩ = some (.string x.text) := hcell 2 _ rfl
   have HX := lH (HF.out x (List.mem_of_getElem? hks))
   have HDR := lH (dropW hks)
   have HK := lH hks
   clear hcell hks hbr
   go_wp2_with fail
   refine (fits_c _ c2 _ _ n d x _ (HOW.out.rd.alloc _) HDN.out hl HX.out HDS.out).mono ?_
   rintro e w3 ⟨rfl, hb3⟩
   have hp63 := cell_later hb3 (fC wr _ hp6)
   have hz43 := cell_later hb3 (fC wr _ hz4)
   have hz4f3 := froz_later hb3 (fC wr _ hz4) (froz_alloc_old wr _ hz4 hz4f)
   have hd0 : w3.cell? ⟨wr.heap.size, 0, none⟩ = some (.int .i64 x.file) := cell_later hb3 (by go_simp)
   have hd1 : w3.cell? ⟨wr.heap.size, 1, none⟩ = some (.int .i64 x.pos) := cell_later hb3 (by go_simp)
   have hd2 : w3.cell? ⟨wr.heap.size, 2, none⟩ = some (.string x.text) := cell_later hb3 (by go_simp)
   have hz3 : wr.heap.size < w3.heap.size := by have := hb3.size; simp at this; omega
   have hz3a : w2.heap.size < w3.heap.size := by omega
   have hz3b : w.heap.size + 1 < w3.heap.size := by omega
   have HB3 : Hid (Below w.heap.size w w3) := aj (HBR.out.alloc HBR.out.size _) hb3 (by have := HBR.out.size; simp; omega)
   have HO3 := lH ((HOW.out.alloc _).below hb3)
   clear hb3 hc0 hcc1 hcc2 hp6 hz4 hz4f HOW
   rcases h7 : fitsD d x with _ | _
   ·have e1 : Hid (eG l ws = d) := by rw [Hid, HPL.out, HDR.out, eG, h7]; rfl
    have e2 : Hid (gm l ws = k) := by rw [Hid, HPN.out, HDR.out, gm, h7]; rfl
    clear h7; go_wp2
    refine bodyPost_ret (v := .tuple #[.agg #[.slice (some ⟨b2, off2, none⟩) n c2], .int .i64 k]) (by simp [results, Tryz.results26, go_sem, World.cell?_setCell_same _ _ _ hz43]) rfl ?_
    exact ⟨some ⟨b2, off2, none⟩, c2, by rw [hpm.out, hpk.out, hpl.out, e2.out], by rw [hpm.out, e1.out]; exact (HO3.out.setCell (.inl (by first | omega | (simp; done) | (simp; omega))) _).mono (by first | omega | (simp; done) | (simp; omega)) (by first | omega | simp [World.setCell] <;> omega) (by first | omega | simp [World.setCell] <;> omega), HB3.out.setCell (by first | omega | (simp; done) | (simp; omega)) _⟩
   have H7 := lH h7
   clear h7
   obtain ⟨kf, sf, hkf, hsf, hp1, hp2, hp3⟩ := fitsD_all H7.out
   have HKF := lH hkf
   clear hkf
   go_wp2_with fail
   refine (put_c w2.heap.size b2 off2 c2 _ _ n kf d x sf _ hp63 hz3a HO3.out HDN.out hl HX.out HKF.out hsf hp1 hp2 hp3).mono ?_
   rintro e w4 ⟨rfl, ho4, hO4⟩
   have hp64 := cell_only ho4 hp63 (by omega)
   have hz44 := cell_only ho4 hz43 (by omega)
   have hz4f4 := froz_only ho4 hz43 hz4f3 (by omega)
   have HB4 := lH (au HB3.out ho4 (by omega) (by first | omega | (simp; done) | (simp; omega)))
   have hz4 : w3.heap.size ≤ w4.heap.size := ho4.size
   have hz4a : w2.heap.size < w4.heap.size := by omega
   rw [← putL_eq HKF.out hsf] at hO4
   have HO4 := lH hO4
   have e1 : Hid (eG l ws = eG (putL d x) (ws.drop (k + 1))) := by rw [Hid, HPL.out, HDR.out, eG, H7.out]; rfl
   have e2 : Hid (gm l ws = k + 1 + gm (putL d x) (ws.drop (k + 1))) := by rw [Hid, HPN.out, HDR.out, gm, H7.out, if_pos rfl]; omega
   have e3 := lH (putL_all HDS.out H7.out)
   have e4 : Hid ((putL d x).length = n) := by rw [Hid, putL_len, HDN.out]
   clear ho4 hO4 hp63 hz43 hz4f3; go_wp2
   go_roundw
   case rel => exact ⟨k + 1, putL d x, by omega, by go_num, e4.out, e3.out, e1.out, e2.out, hp64, hz44, hz4f4, HO4.out, HB4.out, hz4a⟩
   case measure => simp [intOf]; omega
  obtain rfl : k = m := by omega
  have hdr : ws.drop k = [] := List.drop_eq_nil_of_le (by rw [HM.out]; exact Nat.le_refl _)
  have e1 : Hid (eG l ws = d) := by rw [Hid, HPL.out, hdr]; rfl
  have e2 : Hid (gm l ws = k) := by rw [Hid, HPN.out, hdr]; rfl
  clear hbr hdr; go_wp2
  refine bodyPost_ret (v := .tuple #[.agg #[.slice (some ⟨b2, off2, none⟩) n c2], .int .i64 k]) (by simp [results, Tryz.results26, go_sem, World.cell?_setCell_same _ _ _ hz4]) rfl ?_
  exact ⟨some ⟨b2, off2, none⟩, c2, by rw [hpm.out, hpk.out, hpl.out, e2.out], by rw [hpm.out, e1.out]; exact (HOW.out.setCell (.inl (by first | omega | (simp; done) | (simp; omega))) _).mono (by first | omega | (simp; done) | (simp; omega)) (by first | omega | simp [World.setCell] <;> omega) (by first | omega | simp [World.setCell] <;> omega), HBR.out.setCell (by first | omega | (simp; done) | (simp; omega)) _⟩
theorem diskOk_of {l : List ByteArray} (h1 : l.length = 3) (h2 : ∀ s ∈ l, s.size ≤ 300000) : iA l = true := by
 rw [iA, filesOk, Bool.and_eq_true]
 exact ⟨by simpa using h1, by simpa [List.all_eq_true] using h2⟩
def raws (l : List Wri) : Int := if l.length ≤ 600 then (dG Wri.bulk l : Nat) else 0
theorem implRaws_c (A : Option Addr) (c lo hi n : Nat) (l : List Wri) (w : World) (hr : Rd w lo hi A (gM l)) (hn : l.length = n) (hb : n + dG Wri.bulk l ≤ 1048576) :
  Calls Tryz.prog 28 #[.slice A n c] w fun e w' => e = .returned (.int .i64 (raws l)) ∧ Below w.heap.size w w' := by
 have HN := lH hn
 have HBK := lH hb
 have hl : n ≤ 1048576 := by omega
 clear hn hb
 go_enter Tryz.func28, Tryz.ntmps28
 by_cases h6 : n ≤ 600
 ·go_wp2
  go_loopw [3, 11] (fun s i wr => ∃ k : Nat, k ≤ n ∧ i = .int .i64 k ∧ s = .int .i64 (dG Wri.bulk (l.take k) : Nat) ∧ Below w.heap.size w wr) (fun _ i _ => n - (intOf i).toNat)
  case atStart => exact ⟨0, Nat.zero_le _, rfl, rfl, Below.refl _ _⟩
  case round =>
   obtain ⟨k, hk, rfl, rfl, hb0⟩ := hrel
   by_cases hlt : k < n
   ·obtain ⟨b, off, x, rfl, _, _, hb, hks, hcell⟩ := (hr.below hb0).flat (f := Wri.cells) (m := 3) (fun _ => rfl) (by omega) (k := k) (by rw [HN.out]; exact hlt)
    have hc0 : wr.cell? ⟨b, off + k * 3, none⟩ = some (.int .i64 x.file) := hcell 0 _ rfl
    have hc1 : wr.cell? ⟨b, off + k * 3 + 1, none⟩ = some (.int .i64 x.pos) := hcell 1 _ rfl
    have hc2 : wr.cell? ⟨b, off + k * 3 + 2, none⟩ = some (.string x.text) := hcell 2 _ rfl
    have hs1 := sumBy_take_le Wri.bulk l k
    have hs2 := sumBy_get Wri.bulk hks
    have hb1 := HBK.out
    have hx : x.text.size ≤ 1048576 := by have : x.bulk = x.text.size := rfl; omega
    have hsum : dG Wri.bulk (l.take k) ≤ 1048576 := by omega
    have HS := lH (sumBy_take Wri.bulk hks)
    have HB0 := lH hb0
    clear hcell hks hb0 hr hs1 hs2 hb1
    generalize hz : dG Wri.bulk (l.take k) = z at *
    have HZ := lH hz
    clear hz; go_wp2
    go_roundw
    case rel => exact ⟨k + 1, by omega, by go_num, by have := HS.out; rw [this]; show Value.int _ _ = Value.int _ ((z + x.text.size : Nat) : Int); go_num, HB0.out.alloc HB0.out.size _⟩
    case measure => simp [intOf]; omega
   obtain rfl : k = n := by omega
   have HB0 := lH hb0
   clear hb0; go_wp2
   go_ret
   exact ⟨fJ (by rw [raws, if_pos (by rw [HN.out]; exact h6), ← HN.out, List.take_length]), HB0.out⟩
 go_wp2
 go_ret
 exact ⟨fJ (by rw [raws, if_neg (by rw [HN.out]; exact h6)]), Below.refl _ _⟩
theorem gK {t : ByteArray} (h : cB t = true) : (bC t).size = 6 + t.size := by
 have h2 := ax.1 h
 have h3 : bN 4 4 t = true := by rw [bN, decide_eq_true (by omega : t.size ≤ 4000)]; rfl
 rw [bC, if_pos h, frameB, ByteArray.size_append, ByteArray.size_append, bz, digM_size h3]
 show 2 + 4 + t.size = 6 + t.size
 omega
def Recs (l : List ByteArray) : Prop := ∀ t ∈ l, cB t = true ∧ t.size ≤ 480
theorem framesW_app (a b : List ByteArray) : bu (a ++ b) = bu a ++ bu b := by rw [bu, List.flatMap_append]; rfl
theorem framesW_one (t : ByteArray) : bu [t] = (bC t).data.toList := by rw [bu, List.flatMap_cons, List.flatMap_nil, List.append_nil]
theorem framesW_le : ∀ {l : List ByteArray}, Recs l → (bu l).length ≤ l.length * 486
 | [], _ => Nat.zero_le _
 | t :: l, h => by
   have h1 := h t List.mem_cons_self
   have h2 := framesW_le (l := l) (fun s hs => h s (List.mem_cons_of_mem _ hs))
   have h3 := gK h1.1
   have h4 : (bC t).data.toList.length = (bC t).size := Array.length_toList
   rw [show t :: l = [t] ++ l from rfl, framesW_app, List.length_append, framesW_one, h4, List.length_append, show [t].length = 1 from rfl, Nat.add_mul]
   omega
theorem recs_sub {l m : List ByteArray} (h : Recs l) (hs : ∀ t ∈ m, t ∈ l) : Recs m := fun t ht => h t (hs t ht)
theorem frames_fine {l : List ByteArray} (h : Recs l) (hn : l.length ≤ 600) : ∀ {k : Nat}, k ≤ l.length → bO l k = true
 | 0, _ => rfl
 | k + 1, hk => by
   obtain ⟨t, ht⟩ : ∃ t, l[k]? = some t := ⟨_, List.getElem?_eq_getElem (by omega)⟩
   have h1 := h t (List.mem_of_getElem? ht)
   have h2 := framesW_le (recs_sub h (fun s hs => List.mem_of_mem_take (i := k) hs))
   have h3 := gK h1.1
   have h4 : (l.take k).length ≤ 599 := by rw [List.length_take]; omega
   have h5 := Nat.mul_le_mul_right 486 h4
   rw [bO, frames_fine h hn (by omega), ht]
   show (true && (cB t && decide (((bC t).size : Int) ≤ 300000 - (bu (l.take k)).length))) = true
   rw [h1.1, decide_eq_true (by omega)]; rfl
theorem gJ {l : List ByteArray} (h : Recs l) (hn : l.length ≤ 600) : bq l = ⟨(bu l).toArray⟩ ∧ (bq l).size = (bu l).length ∧ (bq l).size ≤ 291600 := by
 have e : bq l = ⟨(bu l).toArray⟩ := by
  rw [bq, if_pos]
  rw [cZ, decide_eq_true hn, frames_fine h hn (Nat.le_refl _)]; rfl
 have e2 : (bq l).size = (bu l).length := by rw [e]; exact List.size_toArray
 have h2 := framesW_le h
 have h5 := Nat.mul_le_mul_right 486 hn
 exact ⟨e, e2, by omega⟩
theorem frames_snoc {l : List ByteArray} {t : ByteArray} (h : Recs (l ++ [t])) (hn : (l ++ [t]).length ≤ 600) : bq (l ++ [t]) = bq l ++ bC t := by
 have h1 := (gJ h hn).1
 have h2 := (gJ (recs_sub h (fun s hs => List.mem_append_left _ hs)) (by rw [List.length_append] at hn; omega)).1
 rw [h1, h2, framesW_app, framesW_one]
 apply ByteArray.ext
 rw [ByteArray.data_append]
 simp
theorem frames_step {l : List ByteArray} (h : Recs l) {k : Nat} {t : ByteArray} (ht : l[k]? = some t) : (bu (l.take (k + 1))).length = (bu (l.take k)).length + 6 + t.size := by
 have h1 := gK (h t (List.mem_of_getElem? ht)).1
 have h4 : (bC t).data.toList.length = (bC t).size := Array.length_toList
 rw [framesW_take ht, List.length_append, h4, h1]; omega
section
variable {width : Int} {es : List Ent} {rs : List Rcp} {hs : List Hd}
theorem leaf_rec {x : Ent} (h : aY x = true) : cB (aI x) = true ∧ (aI x).size ≤ 480 := by
 have h1 := dJ x
 refine ⟨ax.2 ⟨?_, by omega⟩, h1⟩
 rw [aI, if_pos h, leafTextB]
 simp only [ByteArray.size_append, bz]
 omega
theorem rcp_rec {x : Rcp} (h : bZ x = true) : cB (aK x) = true ∧ (aK x).size ≤ 480 := by
 have h1 := dV x
 refine ⟨ax.2 ⟨?_, by omega⟩, by omega⟩
 rw [aK, if_pos h, rcpTextB]
 simp only [ByteArray.size_append, bz]
 omega
theorem head_rec {x : Hd} (h : bE width x = true) : cB (aL width x) = true ∧ (aL width x).size ≤ 480 := by
 have h1 := il width x
 refine ⟨ax.2 ⟨?_, by omega⟩, by omega⟩
 rw [aL, if_pos h]
 simp only [ByteArray.size_append, bz]
 omega
theorem hds_mem (h : aB width es rs hs) {x : Hd} (hx : x ∈ hs) : bE width x = true := by
 obtain ⟨k, hk⟩ := List.mem_iff_getElem?.1 hx
 exact (fA h.heads hk).2.1
theorem eu (h : aB width es rs hs) (f : Nat) : Recs (aW width es rs hs f) ∧ (aW width es rs hs f).length ≤ 600 := by
 have l1 := logOk_len h.log
 have l2 := gz h.bf
 have l3 := headsOk_len h.heads
 unfold aW
 split
 ·exact ⟨fun t ht => by obtain ⟨x, hx, rfl⟩ := List.mem_map.1 ht; exact leaf_rec (logOk_mem h.log x hx), by rw [List.length_map]; omega⟩
 split
 ·exact ⟨fun t ht => by obtain ⟨x, hx, rfl⟩ := List.mem_map.1 ht; exact head_rec (hds_mem h (List.mem_of_mem_drop hx)), by rw [List.length_map, List.length_drop]; omega⟩
 exact ⟨fun t ht => by obtain ⟨x, hx, rfl⟩ := List.mem_map.1 ht; exact rcp_rec (rcpsOk_mem h.bf x hx), by rw [List.length_map]; omega⟩
end
structure Deed (m m' : Bm) (f : Nat) (t : ByteArray) : Prop where
 ok : aB m'.width m'.es m'.rs m'.hs
 wd : m'.width = m.width
 le : f ≤ 2
 at_ : aW m'.width m'.es m'.rs m'.hs f = aW m.width m.es m.rs m.hs f ++ [t]
 off : ∀ g, g ≤ 2 → g ≠ f → aW m'.width m'.es m'.rs m'.hs g = aW m.width m.es m.rs m.hs g
def Bm.file (m : Bm) (f : Nat) : List ByteArray := aW m.width m.es m.rs m.hs f
def bV (m : Bm) (f : Nat) (t : ByteArray) : Wri := ⟨f, (bq (m.file f)).size, bC t⟩
theorem cutPut_end (s t : ByteArray) : cutPut s (s.size : Nat) t = s ++ t := by
 rw [cutPut, Int.toNat_natCast, ByteArray.extract_zero_size]
theorem deed_puts {m m' : Bm} {f : Nat} {t : ByteArray} (h : aB m.width m.es m.rs m.hs) (d : Deed m m' f t) :
  gW (dU m.width m.es m.rs m.hs) [bV m f t] = dU m'.width m'.es m'.rs m'.hs ∧ putAllK (dU m.width m.es m.rs m.hs) [bV m f t] = 1 ∧ raws [bV m f t] = ((6 + t.size : Nat) : Int) ∧ 1 ≤ t.size ∧ t.size ≤ 480 := by
 have r0 := eu h 0
 have r1 := eu h 1
 have r2 := eu h 2
 have k0 := gJ r0.1 r0.2
 have k1 := gJ r1.1 r1.2
 have k2 := gJ r2.1 r2.2
 obtain ⟨q1, q2⟩ := eu d.ok f
 have hsn := frames_snoc (d.at_ ▸ q1) (d.at_ ▸ q2)
 rw [← d.at_] at hsn
 have hft := q1 t (by rw [d.at_]; exact List.mem_append_right _ List.mem_cons_self)
 have hsz := gK hft.1
 have ht1 := (ax.1 hft.1).1
 have hdk : iA (dU m.width m.es m.rs m.hs) = true := diskOk_of rfl (fun s hs => by
  simp only [dU, List.mem_cons, List.not_mem_nil, or_false] at hs
  rcases hs with rfl | rfl | rfl <;> omega)
 have hrf := eu h f
 have hkf := gJ hrf.1 hrf.2
 have hget : (dU m.width m.es m.rs m.hs)[f]? = some (bq (m.file f)) := by
  have := d.le
  obtain e | e | e : f = 0 ∨ f = 1 ∨ f = 2 := by omega
  all_goals subst e; rfl
 have hfit : fitsD (dU m.width m.es m.rs m.hs) (bV m f t) = true := by
  have h9 : (bq (m.file f)).size ≤ 291600 := hkf.2.2
  rw [fitsD_good (x := bV m f t) (k := f) rfl hget (ax.2 ⟨Int.natCast_nonneg _, Int.le_refl _⟩)]
  refine decide_eq_true ?_
  show ((bC t).size : Int) ≤ 300000 - ((bq (m.file f)).size : Nat)
  omega
 have hput : putL (dU m.width m.es m.rs m.hs) (bV m f t) = dU m'.width m'.es m'.rs m'.hs := by
  rw [putL_eq (x := bV m f t) (k := f) rfl hget]
  show (dU m.width m.es m.rs m.hs).set f (cutPut (bq (m.file f)) ((bq (m.file f)).size : Nat) (bC t)) = _
  rw [cutPut_end, Bm.file, ← hsn, dU, dU]
  have hle := d.le; have hof := d.off
  obtain e | e | e : f = 0 ∨ f = 1 ∨ f = 2 := by omega
  ·subst e
   rw [hof 1 (by omega) (by omega), hof 2 (by omega) (by omega)]; rfl
  ·subst e
   rw [hof 0 (by omega) (by omega), hof 2 (by omega) (by omega)]; rfl
  subst e
  rw [hof 0 (by omega) (by omega), hof 1 (by omega) (by omega)]; rfl
 have hc : (iA (dU m.width m.es m.rs m.hs) && decide ([bV m f t].length ≤ 600)) = true := by rw [hdk]; rfl
 refine ⟨?_, ?_, ?_, by omega, hft.2⟩
 ·rw [gW, if_pos hc, eG, if_pos hfit, hput]; rfl
 ·rw [putAllK, if_pos hc, gm, if_pos hfit]; rfl
 rw [raws, if_pos (by show 1 ≤ 600; omega)]
 show (((bV m f t).text.size + 0 : Nat) : Int) = _
 rw [← hsz]; rfl
section
variable {width : Int} {es : List Ent} {rs : List Rcp} {hs : List Hd}
theorem deed_pub (h : aB width es rs hs) {t k b : ByteArray} {ti : Int} (hc : bL es t ti k b = 0) : Deed ⟨width, es, rs, hs⟩ ⟨width, es ++ [bg es t ti k b], rs, hs⟩ 0 (aI (bg es t ti k b)) :=
 ⟨h.publish hc, rfl, by omega, List.map_append, fun g hg hn => by
   obtain e | e : g = 1 ∨ g = 2 := by omega
   all_goals subst e; rfl⟩
theorem deed_take (h : aB width es rs hs) {r : Rcp} (h1 : bZ r = true) (h2 : dN es (ae hs).size.toNat r = true) (h3 : r ∉ rs) (h4 : rs.length < 512) : Deed ⟨width, es, rs, hs⟩ ⟨width, es, rs ++ [r], hs⟩ 2 (aK r) :=
 ⟨h.take h1 h2 h3 h4, rfl, by omega, List.map_append, fun g hg hn => by
   obtain e | e : g = 0 ∨ g = 1 := by omega
   all_goals subst e; rfl⟩
theorem deed_seal (h : aB width es rs hs) (hl : hs.length < 400) : Deed ⟨width, es, rs, hs⟩ ⟨width, es, rs, hs ++ [eU width es rs hs]⟩ 1 (aL width (eU width es rs hs)) :=
 ⟨h.seal_ hl, rfl, by omega, by
   show ((hs ++ [eU width es rs hs]).drop 1).map (aL width) = (hs.drop 1).map (aL width) ++ [aL width (eU width es rs hs)]
   rw [List.drop_append_of_le_length (by have := h.pos; omega), List.map_append]; rfl, fun g hg hn => by
   obtain e | e : g = 0 ∨ g = 2 := by omega
   all_goals subst e; rfl⟩
end
theorem Rd.strAt {w : World} {lo hi : Nat} {A : Option Addr} {l : List ByteArray} (h : Rd w lo hi A (strs l)) {k : Nat} {s : ByteArray} (hk : l[k]? = some s) : ∃ b off, A = some ⟨b, off, none⟩ ∧ b < w.heap.size ∧ w.cell? ⟨b, off + k, none⟩ = some (.string s) := by
 obtain ⟨b, off, e, _, h3, h4, h5⟩ := h (fun e => by have h9 := strs_get hk; rw [e] at h9; cases h9)
 exact ⟨b, off, e, by omega, h5 k _ (strs_get hk)⟩
theorem aa.rdL {w : World} {k lo : Nat} {cs : List Value} (h : aa w k cs) (hl : lo ≤ k) : Rd w lo w.heap.size (some ⟨k, 0, none⟩) cs := fun _ =>
 ⟨k, 0, rfl, hl, h.1, Nat.le_refl _, fun j u hu => by rw [Nat.zero_add]; exact (h.2.1 j).trans hu⟩
theorem idxStrU (R : Option Addr) (b off nr cr k : Nat) (hR : R = some ⟨b, off, none⟩) (hk : k < nr) (W : World) : (Instr.indexAt 29 (.slice R nr cr) (.int .i64 k)).run Tryz.prog W = .ok (.pointer (some ⟨b, off + k, none⟩)) W := by
 subst hR
 have h1 : (k : Int) < nr := by omega
 go_simp
theorem writeBehind_c (width z1 z2 : Int) (p f : Nat) (E R H A1 A2 : Option Addr) (ne nr nh ce cr ch c1 c2 lo1 hi1 lo2 hi2 lo3 hi3 m1 m2 : Nat) (es : List Ent) (rs : List Rcp) (hs : List Hd) (h : Hd) (t : ByteArray) (w : World) (hbx : aa w p [.int .i64 width, .slice E ne ce, .slice R nr cr, .slice H nh ch, .int .i64 z1, .slice A1 m1 c1, .int .i64 z2, .slice A2 m2 c2, .int .i64 h.num, .int .i64 h.size, .string h.root, .int .i64 h.taken, .string h.troot])
  (hE : Rd w lo1 hi1 E (aQ es)) (hR : Rd w lo2 hi2 R (bf rs)) (hH : Rd w lo3 hi3 H (hds hs)) (hne : es.length = ne) (hnr : rs.length = nr) (hnh : hs.length = nh) (b1 : ne ≤ 1000) (b2 : nr ≤ 1000) (b3 : nh ≤ 1000) (hpos : 1 ≤ nh) (hch : nh ≤ ch) (hfe : ∀ x ∈ es, x.fits) (hfr : ∀ x ∈ rs, x.fits) (hfh : ∀ x ∈ hs, x.bulk ≤ 1048576)
  (hf2 : f ≤ 2) (hrc : Recs (aW width es rs hs f)) (hrn : (aW width es rs hs f).length ≤ 600) (ht : t.size ≤ 1048576) :
  Calls Tryz.prog 138 #[.pointer (some ⟨p, 0, none⟩), .int .i64 f, .string t] w fun e w' => ∃ k, e = .returned (.slice (some ⟨k, 0, none⟩) 1 1) ∧ Rd w' w.heap.size w'.heap.size (some ⟨k, 0, none⟩) (gM [⟨f, (bq (aW width es rs hs f)).size, bC t⟩]) ∧ Below w.heap.size w w' := by
 have HTX := lH (fun W (q : aa W p [.int .i64 width, .slice E ne ce, .slice R nr cr, .slice H nh ch, .int .i64 z1, .slice A1 m1 c1, .int .i64 z2, .slice A2 m2 c2, .int .i64 h.num, .int .i64 h.size, .string h.root, .int .i64 h.taken, .string h.troot]) (r0 : Rd W 0 W.heap.size E (aQ es)) (r1 : Rd W 0 W.heap.size R (bf rs)) (r2 : Rd W 0 W.heap.size H (hds hs)) => texts_c width z1 z2 p E R H A1 A2 ne nr nh ce cr ch c1 c2 0 W.heap.size 0 W.heap.size 0 W.heap.size m1 m2 es rs hs h W q r0 r1 r2 hne hnr hnh b1 b2 b3 hpos hch hfe hfr hfh)
 have HFM := lH (fun W => implFrame_c t W ht)
 have hk9 := gJ hrc hrn
 have hl0 : (aW width es rs hs 0).length = ne := by show (es.map aI).length = ne; rw [List.length_map, hne]
 have hl1 : (aW width es rs hs 1).length = nh - 1 := by show ((hs.drop 1).map (aL width)).length = nh - 1; rw [List.length_map, List.length_drop, hnh]
 have hl2 : (aW width es rs hs 2).length = nr := by show (rs.map aK).length = nr; rw [List.length_map, hnr]
 have hpick : ∀ (W : World) (B0 B1 B2 : Option Addr) (d0 d1 d2 : Nat), Own W w.heap.size W.heap.size B0 (strs (aW width es rs hs 0)) ∧ Own W w.heap.size W.heap.size B1 (strs (aW width es rs hs 1)) ∧ Own W w.heap.size W.heap.size B2 (strs (aW width es rs hs 2)) →
   ∃ (X : Option Addr) (nf d : Nat), (∀ V, (Instr.index 146 (.agg #[.slice B0 ne d0, .slice B1 (nh - 1) d1, .slice B2 nr d2]) (.int .i64 f)).run Tryz.prog V = .ok (.slice X nf d) V) ∧ Own W w.heap.size W.heap.size X (strs (aW width es rs hs f)) ∧ (aW width es rs hs f).length = nf := by
  intro W B0 B1 B2 d0 d1 d2 ⟨o0, o1, o2⟩
  obtain rfl | rfl | rfl : f = 0 ∨ f = 1 ∨ f = 2 := by omega
  ·exact ⟨B0, ne, d0, fun V => (idxArr _ _ _ V).1, o0, hl0⟩
  ·exact ⟨B1, nh - 1, d1, fun V => (idxArr _ _ _ V).2.1, o1, hl1⟩
  exact ⟨B2, nr, d2, fun V => (idxArr _ _ _ V).2.2, o2, hl2⟩
 have HPICK := lH hpick
 rw [hk9.2.1]
 obtain ⟨L, hL⟩ : ∃ L, aW width es rs hs f = L := ⟨_, rfl⟩
 rw [hL] at hrc hrn HPICK hk9 ⊢
 have HRC := lH hrc
 have HRN := lH hrn
 have hle : ∀ k, (bu (L.take k)).length ≤ 291600 := fun k => by
  have h1 := framesW_le (recs_sub hrc (fun s hs => List.mem_of_mem_take (i := k) hs))
  have h2 : (L.take k).length ≤ 600 := by rw [List.length_take]; omega
  have h3 := Nat.mul_le_mul_right 486 h2
  omega
 have HLE := lH hle
 have HST := lH (fun (k : Nat) (s : ByteArray) (hs : L[k]? = some s) => frames_step hrc hs)
 have hpw : p < w.heap.size := hbx.1
 have htz : t.size ≤ 1048576 := ht
 generalize bC t = fm at *
 generalize cB t = fo at *
 have HB : Hid (Below w.heap.size w w) := Below.refl _ _
 have HOE : Hid (Rd w (0) (w.heap.size) (E) (aQ es)) := Rd.base hE
 have HOR : Hid (Rd w (0) (w.heap.size) (R) (bf rs)) := Rd.base hR
 have HOH : Hid (Rd w (0) (w.heap.size) (H) (hds hs)) := Rd.base hH
 replace HB : Hid (Below w.heap.size w w) := (Below.refl _ _)
 have HXb : Hid (aa w (p) [.int .i64 width, .slice E ne ce, .slice R nr cr, .slice H nh ch, .int .i64 z1, .slice A1 m1 c1, .int .i64 z2, .slice A2 m2 c2, .int .i64 h.num, .int .i64 h.size, .string h.root, .int .i64 h.taken, .string h.troot]) := hbx
 obtain ⟨hkb, hxb, hfb⟩ := HXb.out
 clear hbx hE hR hH hne hnr hnh hpos hch hfe hfr hfh hrc hrn hk9 hl0 hl1 hl2 hpick hL hle
 go_enter Tryz.func138, Tryz.ntmps138
 go_wp2_with fail
 refine af (fun w1 hw => ?_)
 have hz1 : w.heap.size + 0 ≤ w1.heap.size := zA
 have hbn : Below w.heap.size w w1 := zB
 replace HB := bT HB hbn
 replace HOE := lH (HOE.out.below hbn)
 replace HOR := lH (HOR.out.below hbn)
 replace HOH := lH (HOH.out.below hbn)
 replace HXb := nB HXb hbn
 clear hxb hfb hkb
 obtain ⟨hkb, hxb, hfb⟩ := HXb.out
 clear hbn
 clear hw
 refine (HTX.out _ HXb.out HOE.out.base HOR.out.base HOH.out.base).mono ?_
 rintro e w2 ⟨B0, d0, B1, d1, B2, d2, rfl, ho, hb⟩
 have hzw2 : w1.heap.size ≤ w2.heap.size := hb.size
 replace HB := bT HB hb
 replace HOE := lH (HOE.out.below hb)
 replace HOR := lH (HOR.out.below hb)
 replace HOH := lH (HOH.out.below hb)
 replace HXb := nB HXb hb
 clear hxb hfb hkb
 obtain ⟨hkb, hxb, hfb⟩ := HXb.out
 clear hb
 clear HOE
 clear HOR
 clear HOH
 clear hxb hfb hkb HXb
 obtain ⟨X, nf, d, hix, hX, hnf⟩ := HPICK.out _ B0 B1 B2 d0 d1 d2 (ho.imp (fun q => q.mono (by omega) (Nat.le_refl _) (Nat.le_refl _)) (fun q => q.imp (fun q => q.mono (by omega) (Nat.le_refl _) (Nat.le_refl _)) (fun q => q.mono (by omega) (Nat.le_refl _) (Nat.le_refl _))))
 have HOX : Hid (Rd w2 (w.heap.size) (w2.heap.size) (X) (strs L)) := lH hX.rd
 have HNF := lH hnf
 have hnfb : nf ≤ 600 := by rw [← hnf]; exact HRN.out
 clear ho hX hnf HPICK HTX
 go_wp2
 refine aC (fun w3 hw => ?_)
 have hz3 : w2.heap.size + 0 ≤ w3.heap.size := zA
 have hbn : Below w2.heap.size w2 w3 := zB
 replace HB := bT HB hbn
 replace HOX := lH (HOX.out.below hbn)
 clear hbn
 clear hw
 clear hix
 go_loopw [7, 9, 17] (fun a _ i wx => ∃ k : Nat, k ≤ nf ∧ i = .int .i64 k ∧ a = .int .i64 ((bu (L.take k)).length : Nat) ∧ Rd wx 0 wx.heap.size X (strs L) ∧ Below w.heap.size w wx) (fun _ _ i _ => nf - (intOf i).toNat)
 case atStart => exact ⟨0, Nat.zero_le _, rfl, rfl, HOX.out.base, HB.out⟩
 case round =>
  obtain ⟨wi, rfl⟩ : ∃ wi : World, wi = wr := ⟨_, rfl⟩
  obtain ⟨k, hk, rfl, rfl, hrx, hbl⟩ := hrel
  replace HB : Hid (Below w.heap.size w wi) := lH hbl
  replace HOX : Hid (Rd wi (0) (wi.heap.size) (X) (strs L)) := lH hrx
  have hzz_wi : w.heap.size ≤ wi.heap.size := HB.out.size
  clear hrx hbl
  have hf1 := HLE.out k
  by_cases hlt : k < nf
  ·have hI : (k : Int) < nf := by omega
   obtain ⟨s, hs⟩ : ∃ s, L[k]? = some s := ⟨_, List.getElem?_eq_getElem (by rw [HNF.out]; exact hlt)⟩
   obtain ⟨b2, off, hXe, hb2, hcell⟩ := HOX.out.strAt hs
   have hix := idxStrU X b2 off nf d k hXe hlt
   have hsz := (HRC.out s (List.mem_of_getElem? hs)).2
   have hst := HST.out k s hs
   have hf2' := HLE.out (k + 1)
   rw [hst] at hf2'
   have HS := lH hst
   clear hs hXe hst
   generalize (bu (L.take k)).length = fl at *
   have w1 : IntKind.i64.wrap (6 + (s.size : Int)) = 6 + (s.size : Int) := by rw [IntKind.wrap_i64]; omega
   have w2 : IntKind.i64.wrap ((fl : Int) + (6 + (s.size : Int))) = (fl : Int) + (6 + (s.size : Int)) := by rw [IntKind.wrap_i64]; omega
   go_wp2
   go_roundw
   case rel => exact ⟨k + 1, by omega, by go_num, by rw [HS.out]; go_num, HOX.out.base, HB.out⟩
   case measure => simp [intOf]; omega
  obtain rfl : nf = k := by omega
  have hI : ¬ (nf : Int) < nf := by omega
  have htk : L.take nf = L := List.take_of_length_le (by rw [HNF.out]; exact Nat.le_refl _)
  rw [htk] at hf1 ⊢
  clear htk
  obtain ⟨fl, hfl⟩ : ∃ fl, (bu L).length = fl := ⟨_, rfl⟩
  rw [hfl] at hf1 ⊢
  have HFL := lH hfl
  clear hfl; clear HOX
  go_wp2_with fail
  refine af (fun w4 hw => ?_)
  have hz4 : wi.heap.size + 0 ≤ w4.heap.size := zA
  have hbn : Below wi.heap.size wi w4 := zB
  replace HB := bT HB hbn; clear hbn; clear hw
  refine (HFM.out _).mono ?_
  rintro e w5 ⟨rfl, hb⟩
  have hzw5 : w4.heap.size ≤ w5.heap.size := hb.size
  replace HB := bT HB hb; clear hb; clear HFM; go_wp2
  refine ag (fun w6 hw => ?_)
  have hz6 : w5.heap.size + 1 ≤ w6.heap.size := zA
  have hbn : Below w5.heap.size w5 w6 := zB
  replace HB := bT HB hbn; clear hbn
  have HXz : Hid (aa w6 (w5.heap.size) [.int .i64 (f : Int), .int .i64 (fl : Int), .string fm]) := zG3
  obtain ⟨hkz, hxz, hfz⟩ := HXz.out; clear hw
  refine bodyPost_ret (v := .slice (some ⟨w5.heap.size, 0, none⟩) 1 1) (by simp [results, Tryz.results138, go_sem, hxz]) rfl ?_
  exact ⟨_, rfl, by rw [HFL.out]; exact aa.rdL (cs := [.int .i64 (f : Int), .int .i64 (fl : Int), .string fm]) HXz.out (by omega), HB.out⟩
end
end Go.Proofs.YtoccjgcokffkbaaGreat
