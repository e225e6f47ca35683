/- PutAll: the plain law of it. -/
import Derived.Test.YtjmhebmjlnianaaPut
import Derived.Test.YtjmhebmjlnianaaApp
import Derived.Test.YtjmhebmjlnianaaReg
namespace Go.Proofs.Ytjmhebmjlnianaa
set_option linter.unusedVariables false
set_option linter.unusedSimpArgs false
open Go.RowKit

/-- writes one behind the other, as long as each fits: the files, and how many fitted -/
def putAllL : List ByteArray → List Wri → List ByteArray
  | d, [] => d
  | d, x :: r => if fitsD d x then putAllL (putL d x) r else d
def putAllN : List ByteArray → List Wri → Nat
  | _, [] => 0
  | d, x :: r => if fitsD d x then putAllN (putL d x) r + 1 else 0
theorem dropW {l : List Wri} {k : Nat} {x : Wri} (h : l[k]? = some x) : l.drop k = x :: l.drop (k + 1) := by
  obtain ⟨hk, he⟩ := List.getElem?_eq_some_iff.1 h
  rw [List.drop_eq_getElem_cons hk, he]
theorem cutPut_size {s text : ByteArray} {pos : Int} (h1 : 0 ≤ pos) (h2 : pos ≤ (s.size : Nat)) (h3 : (text.size : Int) ≤ 300000 - pos) : (cutPut s pos text).size ≤ 300000 := by
  rw [cutPut, ByteArray.size_append, ByteArray.size_extract]; omega
theorem putL_all {l : List ByteArray} {x : Wri} (h : ∀ s ∈ l, s.size ≤ 300000) (hf : fitsD l x = true) : ∀ s ∈ putL l x, s.size ≤ 300000 := by
  obtain ⟨k, s0, hk, hs, h1, h2, h3⟩ := fitsD_all hf
  rw [putL_eq hk hs]
  intro s hm
  rcases List.mem_or_eq_of_mem_set hm with hm | rfl
  · exact h s hm
  · exact cutPut_size h1 h2 h3

def putAllM (l : List ByteArray) (ws : List Wri) : List ByteArray := if diskOk l && decide (ws.length ≤ 600) then putAllL l ws else []
def putAllK (l : List ByteArray) (ws : List Wri) : Int := if diskOk l && decide (ws.length ≤ 600) then (putAllN l ws : Nat) else 0
theorem putAllL_len : ∀ (ws : List Wri) (l : List ByteArray), (putAllL l ws).length = l.length
  | [], _ => rfl
  | x :: r, l => by
    rw [putAllL]
    split
    · rw [putAllL_len r, putL_len]
    · rfl

set_option maxRecDepth 100000 in
set_option maxHeartbeats 400000 in
theorem implPutAll_c (A : Option Addr) (c lo hi n : Nat) (l : List ByteArray) (B : Option Addr) (g lo' hi' m : Nat) (ws : List Wri) (w : World) (hr : Rd w lo hi A (strs l)) (hn : l.length = n) (hl : n ≤ 1048576)
    (hr' : Rd w lo' hi' B (wris ws)) (hm : ws.length = m) (hml : m ≤ 1048576) (hf : ∀ x ∈ ws, x.fits) :
    Calls Try.prog 58 #[.agg #[.slice A n c], .slice B m g] w fun e w' => ∃ (A' : Option Addr) (c' : Nat), e = .returned (.tuple #[.agg #[.slice A' (putAllM l ws).length c'], .int .i64 (putAllK l ws)]) ∧ Own w' w.heap.size w'.heap.size A' (strs (putAllM l ws)) ∧ Below w.heap.size w w' := by
  have HF := Lib.hid hf
  have HN := Lib.hid hn
  have HM := Lib.hid hm
  clear hf hn hm
  go_enter Try.func58, Try.ntmps58
  go_wp2_with fail
  refine (implDiskOk_c A c _ _ n l _ ((hr.alloc _).alloc _) HN.out hl).mono ?_
  rintro e w1 ⟨rfl, hb1⟩
  have hx0 : w1.cell? ⟨w.heap.size, 0, none⟩ = some (.slice A n c) := cell_later hb1 (by go_simp)
  have hz0 : w1.cell? ⟨w.heap.size + 1, 0, none⟩ = some (.slice none 0 0) := cell_later hb1 (by go_simp)
  have hzf : w1.frozen? ⟨w.heap.size + 1, 0, none⟩ = false := (hb1.frozen (p := ⟨w.heap.size + 1, 0, none⟩) (by simp)).trans (by go_simp)
  have hq : w.heap.size + 1 < w1.heap.size := by have := hb1.size; simp at this; omega
  have hqc : w.heap.size < w1.heap.size := by omega
  have HB1 : Hid (Below w.heap.size w w1) := below_then (((Below.refl _ _).alloc (Nat.le_refl _) _).alloc (by first | omega | (simp; done) | (simp; omega)) _) hb1 (by first | omega | (simp; done) | (simp; omega))
  clear hb1
  rcases h1 : diskOk l with _ | _
  · have hpm : Hid (putAllM l ws = []) := by rw [Hid, putAllM, h1]; rfl
    have hpk : Hid (putAllK l ws = 0) := by rw [Hid, putAllK, h1]; rfl
    clear h1
    go_wp2
    refine bodyPost_ret (v := .tuple #[.agg #[.slice none 0 0], .int .i64 0]) (by simp [results, Try.results58, go_sem, World.cell?_setCell_same _ _ _ hz0]) rfl ?_
    exact ⟨none, 0, by rw [hpm.out, hpk.out]; rfl, by rw [hpm.out]; exact Own.nil, HB1.out.setCell (by first | omega | (simp; done) | (simp; omega)) _⟩
  · have H1 := Lib.hid h1
    clear h1
    rcases (show 600 < m ∨ m ≤ 600 by omega) with h6 | h6
    · have hpm : Hid (putAllM l ws = []) := by rw [Hid, putAllM, H1.out, HM.out]; simp; omega
      have hpk : Hid (putAllK l ws = 0) := by rw [Hid, putAllK, H1.out, HM.out]; simp; omega
      go_wp2
      refine bodyPost_ret (v := .tuple #[.agg #[.slice none 0 0], .int .i64 0]) (by simp [results, Try.results58, go_sem, World.cell?_setCell_same _ _ _ hz0]) rfl ?_
      exact ⟨none, 0, by rw [hpm.out, hpk.out]; rfl, by rw [hpm.out]; exact Own.nil, HB1.out.setCell (by first | omega | (simp; done) | (simp; omega)) _⟩
    · have hn3 := diskOk_len H1.out
      have hA : A ≠ none := by
        rintro rfl
        obtain ⟨b, off, h, _⟩ := hr (by intro e; rw [strs, List.map_eq_nil_iff] at e; subst e; simp at hn3)
        cases h
      have hpm : Hid (putAllM l ws = putAllL l ws) := by rw [Hid, putAllM, H1.out, HM.out]; simp [h6]
      have hpk : Hid (putAllK l ws = (putAllN l ws : Nat)) := by rw [Hid, putAllK, H1.out, HM.out]; simp [h6]
      have hpl : Hid ((putAllL l ws).length = n) := by rw [Hid, putAllL_len, HN.out]
      go_wp2_with fail
      refine (copyDisk_c A c _ _ n l _ (hr.below HB1.out) HN.out hl (fun h => absurd h hA)).mono ?_
      rintro e w2 ⟨A2, c2, rfl, hc1, hc2, ho2, hb2⟩
      obtain ⟨b2, off2, rfl, g1, g2, _⟩ := ho2 (by intro e; rw [strs, List.map_eq_nil_iff] at e; subst e; simp at hn3)
      have hz0' := cell_later hb2 hz0
      have hzf' := froz_later hb2 hz0 hzf
      have hq' : w1.heap.size ≤ w2.heap.size := hb2.size
      have hqa : w.heap.size + 1 < w2.heap.size := by omega
      have HB2 : Hid (Below w.heap.size w w2) := below_then HB1.out hb2 HB1.out.size
      have HO2 := Lib.hid ho2.tight
      have HR' := Lib.hid hr'
      clear hx0 hz0 hzf hb2 ho2 hr hr'
      go_wp2
      go_loopw [22] (fun i wr => ∃ (k : Nat) (d : List ByteArray), k ≤ m ∧ i = .int .i64 k ∧ d.length = n ∧ (∀ s ∈ d, s.size ≤ 300000) ∧ putAllL l ws = putAllL d (ws.drop k) ∧ putAllN l ws = k + putAllN d (ws.drop k) ∧
        wr.cell? ⟨w2.heap.size, 0, none⟩ = some (.slice (some ⟨b2, off2, none⟩) n c2) ∧ wr.cell? ⟨w.heap.size + 1, 0, none⟩ = some (.slice none 0 0) ∧ wr.frozen? ⟨w.heap.size + 1, 0, none⟩ = false ∧
        Own wr b2 (b2 + 1) (some ⟨b2, off2, none⟩) (strs d) ∧ Below w.heap.size w wr ∧ w2.heap.size < wr.heap.size) (fun i _ => m - (intOf i).toNat)
      case atStart => exact ⟨0, l, Nat.zero_le _, rfl, HN.out, diskOk_all H1.out, rfl, by rw [List.drop_zero, Nat.zero_add], by go_simp, cell_alloc_old _ _ hz0', froz_alloc_old _ _ hz0' hzf', HO2.out.alloc _, HB2.out.alloc HB2.out.size _, by simp⟩
      case round =>
        obtain ⟨k, d, hk, rfl, hdn, hds, hpL, hpN, hp6, hz4, hz4f, how, hbr, hzr⟩ := hrel
        have HDN := Lib.hid hdn
        have HDS := Lib.hid hds
        have HPL := Lib.hid hpL
        have HPN := Lib.hid hpN
        have HOW := Lib.hid how
        have HBR := Lib.hid hbr
        have hra : w.heap.size + 1 < wr.heap.size := by omega
        clear hdn hds hpL hpN how
        by_cases hlt : k < m
        · obtain ⟨b, off, x, rfl, _, _, hb, hks, hcell⟩ := (HR'.out.below hbr).flat (f := Wri.cells) (m := 3) (fun _ => rfl) (by omega) (k := k) (by rw [HM.out]; exact hlt)
          have hc0 : wr.cell? ⟨b, off + k * 3, none⟩ = some (.int .i64 x.file) := hcell 0 _ rfl
          have hcc1 : wr.cell? ⟨b, off + k * 3 + 1, none⟩ = some (.int .i64 x.pos) := hcell 1 _ rfl
          have hcc2 : wr.cell? ⟨b, off + k * 3 + 2, none⟩ = some (.string x.text) := hcell 2 _ rfl
          have HX := Lib.hid (HF.out x (List.mem_of_getElem? hks))
          have HDR := Lib.hid (dropW hks)
          have HK := Lib.hid hks
          clear hcell hks hbr
          go_wp2_with fail
          refine (fits_c _ c2 _ _ n d x _ (HOW.out.rd.alloc _) HDN.out hl HX.out HDS.out).mono ?_
          rintro e w3 ⟨rfl, hb3⟩
          have hp63 := cell_later hb3 (cell_alloc_old wr _ hp6)
          have hz43 := cell_later hb3 (cell_alloc_old wr _ hz4)
          have hz4f3 := froz_later hb3 (cell_alloc_old wr _ hz4) (froz_alloc_old wr _ hz4 hz4f)
          have hd0 : w3.cell? ⟨wr.heap.size, 0, none⟩ = some (.int .i64 x.file) := cell_later hb3 (by go_simp)
          have hd1 : w3.cell? ⟨wr.heap.size, 1, none⟩ = some (.int .i64 x.pos) := cell_later hb3 (by go_simp)
          have hd2 : w3.cell? ⟨wr.heap.size, 2, none⟩ = some (.string x.text) := cell_later hb3 (by go_simp)
          have hz3 : wr.heap.size < w3.heap.size := by have := hb3.size; simp at this; omega
          have hz3a : w2.heap.size < w3.heap.size := by omega
          have hz3b : w.heap.size + 1 < w3.heap.size := by omega
          have HB3 : Hid (Below w.heap.size w w3) := below_then (HBR.out.alloc HBR.out.size _) hb3 (by have := HBR.out.size; simp; omega)
          have HO3 := Lib.hid ((HOW.out.alloc _).below hb3)
          clear hb3 hc0 hcc1 hcc2 hp6 hz4 hz4f HOW
          rcases h7 : fitsD d x with _ | _
          · have e1 : Hid (putAllL l ws = d) := by rw [Hid, HPL.out, HDR.out, putAllL, h7]; rfl
            have e2 : Hid (putAllN l ws = k) := by rw [Hid, HPN.out, HDR.out, putAllN, h7]; rfl
            clear h7
            go_wp2
            refine bodyPost_ret (v := .tuple #[.agg #[.slice (some ⟨b2, off2, none⟩) n c2], .int .i64 k]) (by simp [results, Try.results58, go_sem, World.cell?_setCell_same _ _ _ hz43]) rfl ?_
            exact ⟨some ⟨b2, off2, none⟩, c2, by rw [hpm.out, hpk.out, hpl.out, e2.out], by rw [hpm.out, e1.out]; exact (HO3.out.setCell (.inl (by first | omega | (simp; done) | (simp; omega))) _).mono (by first | omega | (simp; done) | (simp; omega)) (by first | omega | (simp [World.setCell]; done) | (simp [World.setCell]; omega)) (by first | omega | (simp [World.setCell]; done) | (simp [World.setCell]; omega)), HB3.out.setCell (by first | omega | (simp; done) | (simp; omega)) _⟩
          · have H7 := Lib.hid h7
            clear h7
            obtain ⟨kf, sf, hkf, hsf, hp1, hp2, hp3⟩ := fitsD_all H7.out
            have HKF := Lib.hid hkf
            clear hkf
            go_wp2_with fail
            refine (put_c w2.heap.size b2 off2 c2 _ _ n kf d x sf _ hp63 hz3a HO3.out HDN.out hl HX.out HKF.out hsf hp1 hp2 hp3).mono ?_
            rintro e w4 ⟨rfl, ho4, hO4⟩
            have hp64 := cell_only ho4 hp63 (by omega)
            have hz44 := cell_only ho4 hz43 (by omega)
            have hz4f4 := froz_only ho4 hz43 hz4f3 (by omega)
            have HB4 : Hid (Below w.heap.size w w4) := below_only HB3.out ho4 (by omega) (by first | omega | (simp; done) | (simp; omega))
            have hz4 : w3.heap.size ≤ w4.heap.size := ho4.size
            have hz4a : w2.heap.size < w4.heap.size := by omega
            rw [← putL_eq HKF.out hsf] at hO4
            have HO4 := Lib.hid hO4
            have e1 : Hid (putAllL l ws = putAllL (putL d x) (ws.drop (k + 1))) := by rw [Hid, HPL.out, HDR.out, putAllL, H7.out]; rfl
            have e2 : Hid (putAllN l ws = k + 1 + putAllN (putL d x) (ws.drop (k + 1))) := by rw [Hid, HPN.out, HDR.out, putAllN, H7.out, if_pos rfl]; omega
            have e3 := Lib.hid (putL_all HDS.out H7.out)
            have e4 : Hid ((putL d x).length = n) := by rw [Hid, putL_len, HDN.out]
            clear ho4 hO4 hp63 hz43 hz4f3
            go_wp2
            go_roundw
            case rel => exact ⟨k + 1, putL d x, by omega, by go_num, e4.out, e3.out, e1.out, e2.out, hp64, hz44, hz4f4, HO4.out, HB4.out, hz4a⟩
            case measure => simp [intOf]; omega
        · obtain rfl : k = m := by omega
          have hdr : ws.drop k = [] := List.drop_eq_nil_of_le (by rw [HM.out]; exact Nat.le_refl _)
          have e1 : Hid (putAllL l ws = d) := by rw [Hid, HPL.out, hdr]; rfl
          have e2 : Hid (putAllN l ws = k) := by rw [Hid, HPN.out, hdr]; rfl
          clear hbr hdr
          go_wp2
          refine bodyPost_ret (v := .tuple #[.agg #[.slice (some ⟨b2, off2, none⟩) n c2], .int .i64 k]) (by simp [results, Try.results58, go_sem, World.cell?_setCell_same _ _ _ hz4]) rfl ?_
          exact ⟨some ⟨b2, off2, none⟩, c2, by rw [hpm.out, hpk.out, hpl.out, e2.out], by rw [hpm.out, e1.out]; exact (HOW.out.setCell (.inl (by first | omega | (simp; done) | (simp; omega))) _).mono (by first | omega | (simp; done) | (simp; omega)) (by first | omega | (simp [World.setCell]; done) | (simp [World.setCell]; omega)) (by first | omega | (simp [World.setCell]; done) | (simp [World.setCell]; omega)), HBR.out.setCell (by first | omega | (simp; done) | (simp; omega)) _⟩

theorem diskOk_of {l : List ByteArray} (h1 : l.length = 3) (h2 : ∀ s ∈ l, s.size ≤ 300000) : diskOk l = true := by
  rw [diskOk, filesOk, Bool.and_eq_true]
  exact ⟨by simpa using h1, by simpa [List.all_eq_true] using h2⟩
theorem putL_fit {d : List ByteArray} {x : Wri} (h : writeOk d x = true) : putM d x = putL d x := by rw [putM, if_pos h]
set_option maxRecDepth 100000 in
set_option maxHeartbeats 400000 in
theorem specPutAll_c (A : Option Addr) (c lo hi n : Nat) (l : List ByteArray) (B : Option Addr) (g lo' hi' m : Nat) (ws : List Wri) (w : World) (hr : Rd w lo hi A (strs l)) (hn : l.length = n) (hl : n ≤ 1048576)
    (hr' : Rd w lo' hi' B (wris ws)) (hm : ws.length = m) (hml : m ≤ 1048576) (hf : ∀ x ∈ ws, x.fits) :
    Calls Try.prog 57 #[.agg #[.slice A n c], .slice B m g] w fun e w' => ∃ (A' : Option Addr) (c' : Nat), e = .returned (.tuple #[.agg #[.slice A' (putAllM l ws).length c'], .int .i64 (putAllK l ws)]) ∧ Own w' w.heap.size w'.heap.size A' (strs (putAllM l ws)) ∧ Below w.heap.size w w' := by
  have HF := Lib.hid hf
  have HN := Lib.hid hn
  have HM := Lib.hid hm
  clear hf hn hm
  go_enter Try.func57, Try.ntmps57
  have HB : Hid (Below w.heap.size w w) := Below.refl _ _
  have HOA : Hid (Rd w (0) (w.heap.size) (A) (strs l)) := Rd.base hr
  have HOB : Hid (Rd w (0) (w.heap.size) (B) (wris ws)) := Rd.base hr'
  have HR0 := Lib.hid (Rd.base hr')
  clear hr hr'
  go_wp2_with fail
  refine calls_named (fun w1 hw => ?_)
  have hz1 : w.heap.size + 2 ≤ w1.heap.size := by rw [hw]; first | omega | (simp [World.setCell]; done) | (simp [World.setCell]; omega)
  have hzz1 : w.heap.size ≤ w1.heap.size := by omega
  replace HB : Hid (Below w.heap.size w w1) := by rw [Hid, hw]; exact (by ((repeat (first | ((with_reducible refine Below.alloc ?_ ?_ _); rotate_left 1; (focus (first | omega | (simp; done) | (simp; omega)))) | (with_reducible refine Below.drew ?_) | ((with_reducible refine Below.setCell ?_ ?_ _); rotate_left 1; (focus (first | omega | (simp; done) | (simp; omega)))))); exact HB.out))
  replace HOA : Hid (Rd w1 (0) (w.heap.size) (A) (strs l)) := by rw [Hid, hw]; (repeat (first | (with_reducible refine Rd.alloc ?_ _) | (with_reducible refine Rd.drew ?_) | ((with_reducible refine Rd.setCell ?_ ?_ _); rotate_left 1; (focus (first | omega | (simp; done) | (simp; omega)))))); exact HOA.out
  replace HOB : Hid (Rd w1 (0) (w.heap.size) (B) (wris ws)) := by rw [Hid, hw]; (repeat (first | (with_reducible refine Rd.alloc ?_ _) | (with_reducible refine Rd.drew ?_) | ((with_reducible refine Rd.setCell ?_ ?_ _); rotate_left 1; (focus (first | omega | (simp; done) | (simp; omega)))))); exact HOB.out
  have HXd : Hid (NewBox w1 (w.heap.size) [.slice A n c]) := by rw [Hid, hw]; exact ⟨by first | omega | (simp [World.setCell]; done) | (simp [World.setCell]; omega), fun o => by rcases o with _ | o <;> go_simp, fun o => by go_simp⟩
  have hxd := HXd.out.2.1
  have hfd := HXd.out.2.2
  have hkd := HXd.out.1
  have HXr0 : Hid (NewBox w1 (w.heap.size + 1) [.slice none 0 0]) := by rw [Hid, hw]; exact ⟨by first | omega | (simp [World.setCell]; done) | (simp [World.setCell]; omega), fun o => by rcases o with _ | o <;> go_simp, fun o => by go_simp⟩
  have hxr0 := HXr0.out.2.1
  have hfr0 := HXr0.out.2.2
  have hkr0 := HXr0.out.1
  clear hw
  refine (specDiskOk_c A c _ _ n l _ HOA.out HN.out hl).mono ?_
  rintro e w2 ⟨rfl, hb⟩
  have hzw2 : w1.heap.size ≤ w2.heap.size := hb.size
  have hzzw2 : w.heap.size ≤ w2.heap.size := by omega
  replace HB : Hid (Below w.heap.size w w2) := below_then HB.out hb HB.out.size
  replace HOA : Hid (Rd w2 (0) (w.heap.size) (A) (strs l)) := HOA.out.below hb
  replace HOB : Hid (Rd w2 (0) (w.heap.size) (B) (wris ws)) := HOB.out.below hb
  replace HXd : Hid (NewBox w2 (w.heap.size) [.slice A n c]) := HXd.out.below hb
  clear hxd hfd hkd
  have hxd := HXd.out.2.1
  have hfd := HXd.out.2.2
  have hkd := HXd.out.1
  replace HXr0 : Hid (NewBox w2 (w.heap.size + 1) [.slice none 0 0]) := HXr0.out.below hb
  clear hxr0 hfr0 hkr0
  have hxr0 := HXr0.out.2.1
  have hfr0 := HXr0.out.2.2
  have hkr0 := HXr0.out.1
  clear hb
  rcases h1 : diskOk l with _ | _
  · have hpm : Hid (putAllM l ws = []) := by rw [Hid, putAllM, h1]; rfl
    have hpk : Hid (putAllK l ws = 0) := by rw [Hid, putAllK, h1]; rfl
    clear h1
    go_wp2
    refine bodyPost_ret (v := .tuple #[.agg #[.slice none 0 0], .int .i64 0]) (by simp [results, Try.results57, go_sem, World.cell?_setCell_same _ _ _ (HXr0.out.cell (o := 0) rfl)]) rfl ?_
    exact ⟨none, 0, by rw [hpm.out, hpk.out]; rfl, by rw [hpm.out]; exact Own.nil, (by ((repeat (first | ((with_reducible refine Below.alloc ?_ ?_ _); rotate_left 1; (focus (first | omega | (simp; done) | (simp; omega)))) | (with_reducible refine Below.drew ?_) | ((with_reducible refine Below.setCell ?_ ?_ _); rotate_left 1; (focus (first | omega | (simp; done) | (simp; omega)))))); exact HB.out))⟩
  · have H1 := Lib.hid h1
    clear h1
    rcases (show 600 < m ∨ m ≤ 600 by omega) with h6 | h6
    · have hpm : Hid (putAllM l ws = []) := by rw [Hid, putAllM, H1.out, HM.out]; simp; omega
      have hpk : Hid (putAllK l ws = 0) := by rw [Hid, putAllK, H1.out, HM.out]; simp; omega
      go_wp2
      refine bodyPost_ret (v := .tuple #[.agg #[.slice none 0 0], .int .i64 0]) (by simp [results, Try.results57, go_sem, World.cell?_setCell_same _ _ _ (HXr0.out.cell (o := 0) rfl)]) rfl ?_
      exact ⟨none, 0, by rw [hpm.out, hpk.out]; rfl, by rw [hpm.out]; exact Own.nil, (by ((repeat (first | ((with_reducible refine Below.alloc ?_ ?_ _); rotate_left 1; (focus (first | omega | (simp; done) | (simp; omega)))) | (with_reducible refine Below.drew ?_) | ((with_reducible refine Below.setCell ?_ ?_ _); rotate_left 1; (focus (first | omega | (simp; done) | (simp; omega)))))); exact HB.out))⟩
    · have hn3 := diskOk_len H1.out
      have hA : A = none → c = 0 := by
        rintro rfl
        obtain ⟨b, off, h, _⟩ := HOA.out (by intro e; rw [strs, List.map_eq_nil_iff] at e; subst e; simp at hn3)
        cases h
      have hpm : Hid (putAllM l ws = putAllL l ws) := by rw [Hid, putAllM, H1.out, HM.out]; simp [h6]
      have hpk : Hid (putAllK l ws = (putAllN l ws : Nat)) := by rw [Hid, putAllK, H1.out, HM.out]; simp [h6]
      have hpl : Hid ((putAllL l ws).length = n) := by rw [Hid, putAllL_len, HN.out]
      go_wp2_with (at_builtin; refine stop_here ?_)
      intro _
      have hb0 := w2.heap.size
      refine wpList_named (fun w3 hw => ?_)
      have hz3 : w2.heap.size + 0 ≤ w3.heap.size := by rw [hw]; first | omega | (simp [World.setCell]; done) | (simp [World.setCell]; omega)
      have hzz3 : w.heap.size ≤ w3.heap.size := by omega
      replace HB : Hid (Below w.heap.size w w3) := by rw [Hid, hw]; exact (by ((repeat (first | ((with_reducible refine Below.alloc ?_ ?_ _); rotate_left 1; (focus (first | omega | (simp; done) | (simp; omega)))) | (with_reducible refine Below.drew ?_) | ((with_reducible refine Below.setCell ?_ ?_ _); rotate_left 1; (focus (first | omega | (simp; done) | (simp; omega)))))); exact HB.out))
      replace HOA : Hid (Rd w3 (0) (w.heap.size) (A) (strs l)) := by rw [Hid, hw]; (repeat (first | (with_reducible refine Rd.alloc ?_ _) | (with_reducible refine Rd.drew ?_) | ((with_reducible refine Rd.setCell ?_ ?_ _); rotate_left 1; (focus (first | omega | (simp; done) | (simp; omega)))))); exact HOA.out
      replace HOB : Hid (Rd w3 (0) (w.heap.size) (B) (wris ws)) := by rw [Hid, hw]; (repeat (first | (with_reducible refine Rd.alloc ?_ _) | (with_reducible refine Rd.drew ?_) | ((with_reducible refine Rd.setCell ?_ ?_ _); rotate_left 1; (focus (first | omega | (simp; done) | (simp; omega)))))); exact HOB.out
      replace HXd : Hid (NewBox w3 (w.heap.size) [.slice A n c]) := by rw [Hid, hw]; (repeat (first | (with_reducible refine NewBox.alloc ?_ _) | (with_reducible refine NewBox.drew ?_) | ((with_reducible refine NewBox.setCell ?_ ?_ _); rotate_left 1; (focus (first | omega | (simp; done) | (simp; omega)))))); exact HXd.out
      clear hxd hfd hkd
      have hxd := HXd.out.2.1
      have hfd := HXd.out.2.2
      have hkd := HXd.out.1
      replace HXr0 : Hid (NewBox w3 (w.heap.size + 1) [.slice none 0 0]) := by rw [Hid, hw]; (repeat (first | (with_reducible refine NewBox.alloc ?_ _) | (with_reducible refine NewBox.drew ?_) | ((with_reducible refine NewBox.setCell ?_ ?_ _); rotate_left 1; (focus (first | omega | (simp; done) | (simp; omega)))))); exact HXr0.out
      clear hxr0 hfr0 hkr0
      have hxr0 := HXr0.out.2.1
      have hfr0 := HXr0.out.2.2
      have hkr0 := HXr0.out.1
      have hmk : w3.ownsRow (w2.heap.size) 9 1 (.slice (some ⟨w2.heap.size, 0, none⟩) 0 0) 0 [] := by rw [hw]; exact World.ownsRow_made _ #[] 0 (Nat.le_refl _) (Nat.zero_le _) rfl
      clear hw
      refine appStr rfl _ _ rfl w2.heap.size _ 0 [] rfl hmk A n c _ _ l rfl HN.out HOA.out hA (by omega) (by omega) ?_
      intro v4 wa hown hg
      have ho := grown_only hmk hg
      rw [List.nil_append, Nat.zero_add] at hown
      obtain ⟨A4, c4, rfl, hc1, hc2, ho4⟩ := ownsRow_slice hown
      clear hmk hg hown
      have hzwa : w3.heap.size ≤ wa.heap.size := ho.size
      have hzzwa : w.heap.size ≤ wa.heap.size := by omega
      replace HB : Hid (Below w.heap.size w wa) := below_only HB.out ho (by omega) HB.out.size
      replace HOA : Hid (Rd wa (0) (w.heap.size) (A) (strs l)) := HOA.out.only ho (by first | omega | (simp; omega))
      replace HOB : Hid (Rd wa (0) (w.heap.size) (B) (wris ws)) := HOB.out.only ho (by first | omega | (simp; omega))
      replace HXd : Hid (NewBox wa (w.heap.size) [.slice A n c]) := HXd.out.only ho (by first | omega | (simp; omega))
      clear hxd hfd hkd
      have hxd := HXd.out.2.1
      have hfd := HXd.out.2.2
      have hkd := HXd.out.1
      replace HXr0 : Hid (NewBox wa (w.heap.size + 1) [.slice none 0 0]) := HXr0.out.only ho (by first | omega | (simp; omega))
      clear hxr0 hfr0 hkr0
      have hxr0 := HXr0.out.2.1
      have hfr0 := HXr0.out.2.2
      have hkr0 := HXr0.out.1
      have HON : Hid (Own wa (w2.heap.size) (wa.heap.size) (A4) (strs l)) := Lib.hid ho4
      clear ho ho4 hb0
      clear hxd hfd hkd HXd
      clear HOA
      have HDN := Lib.hid hn3
      clear hn3
      go_wp2
      refine wp_named (fun w4 hw => ?_)
      have hz4 : wa.heap.size + 1 ≤ w4.heap.size := by rw [hw]; first | omega | (simp [World.setCell]; done) | (simp [World.setCell]; omega)
      have hzz4 : w.heap.size ≤ w4.heap.size := by omega
      replace HB : Hid (Below w.heap.size w w4) := by rw [Hid, hw]; exact (by ((repeat (first | ((with_reducible refine Below.alloc ?_ ?_ _); rotate_left 1; (focus (first | omega | (simp; done) | (simp; omega)))) | (with_reducible refine Below.drew ?_) | ((with_reducible refine Below.setCell ?_ ?_ _); rotate_left 1; (focus (first | omega | (simp; done) | (simp; omega)))))); exact HB.out))
      replace HOB : Hid (Rd w4 (0) (w.heap.size) (B) (wris ws)) := by rw [Hid, hw]; (repeat (first | (with_reducible refine Rd.alloc ?_ _) | (with_reducible refine Rd.drew ?_) | ((with_reducible refine Rd.setCell ?_ ?_ _); rotate_left 1; (focus (first | omega | (simp; done) | (simp; omega)))))); exact HOB.out
      replace HON : Hid (Own w4 (w2.heap.size) (wa.heap.size) (A4) (strs l)) := by rw [Hid, hw]; (repeat (first | (with_reducible refine Own.alloc ?_ _) | (with_reducible refine Own.drew ?_) | ((with_reducible refine Own.setCell ?_ ?_ _); rotate_left 1; (focus (first | omega | (simp; done) | (simp; omega)))))); exact HON.out
      replace HXr0 : Hid (NewBox w4 (w.heap.size + 1) [.slice none 0 0]) := by rw [Hid, hw]; (repeat (first | (with_reducible refine NewBox.alloc ?_ _) | (with_reducible refine NewBox.drew ?_) | ((with_reducible refine NewBox.setCell ?_ ?_ _); rotate_left 1; (focus (first | omega | (simp; done) | (simp; omega)))))); exact HXr0.out
      clear hxr0 hfr0 hkr0
      have hxr0 := HXr0.out.2.1
      have hfr0 := HXr0.out.2.2
      have hkr0 := HXr0.out.1
      have HXnow : Hid (NewBox w4 (wa.heap.size) [.slice A4 n c4]) := by rw [Hid, hw]; exact ⟨by first | omega | (simp [World.setCell]; done) | (simp [World.setCell]; omega), fun o => by rcases o with _ | o <;> go_simp, fun o => by go_simp⟩
      have hxnow := HXnow.out.2.1
      have hfnow := HXnow.out.2.2
      have hknow := HXnow.out.1
      clear hw
      go_loopw [7] (fun i wr => ∃ (k : Nat) (d : List ByteArray) (Ad : Option Addr) (cd : Nat), k ≤ m ∧ i = .int .i64 k ∧ d.length = n ∧ diskOk d = true ∧ putAllL l ws = putAllL d (ws.drop k) ∧ putAllN l ws = k + putAllN d (ws.drop k) ∧
        NewBox wr (w.heap.size + 1) [.slice none 0 0] ∧ NewBox wr (wa.heap.size) [.slice Ad n cd] ∧ (∃ b, w.heap.size + 2 ≤ b ∧ b ≠ wa.heap.size ∧ b < wr.heap.size ∧ Own wr b (b + 1) Ad (strs d)) ∧ Below w.heap.size w wr ∧ w4.heap.size ≤ wr.heap.size) (fun i _ => m - (intOf i).toNat)
      case atStart => exact ⟨0, l, A4, c4, Nat.zero_le _, rfl, HN.out, H1.out, rfl, by rw [List.drop_zero, Nat.zero_add], HXr0.out, HXnow.out, by
        obtain ⟨b, off, h1, h2, h3, h4, h5⟩ := HON.out (by intro e; rw [strs, List.map_eq_nil_iff] at e; have := diskOk_len H1.out; rw [e] at this; cases this)
        exact ⟨b, by omega, by omega, by omega, by have h := HON.out; rw [h1] at h ⊢; exact h.tight⟩, HB.out, Nat.le_refl _⟩
      case round =>
        obtain ⟨k, d, Ad, cd, hk, rfl, hdn, hdok, hpL, hpN, hbr0, hbnow, ⟨bo, hbo1, hbo2, hbo3, how⟩, hbr, hzr⟩ := hrel
        replace HB : Hid (Below w.heap.size w wr) := hbr
        replace HXr0 : Hid (NewBox wr (w.heap.size + 1) [.slice none 0 0]) := hbr0
        clear hxr0 hfr0 hkr0
        have hxr0 := HXr0.out.2.1
        have hfr0 := HXr0.out.2.2
        have hkr0 := HXr0.out.1
        replace HXnow : Hid (NewBox wr (wa.heap.size) [.slice Ad n cd]) := hbnow
        clear hxnow hfnow hknow
        have hxnow := HXnow.out.2.1
        have hfnow := HXnow.out.2.2
        have hknow := HXnow.out.1
        replace HON : Hid (Own wr (bo) (bo + 1) (Ad) (strs d)) := Lib.hid how
        replace HOB : Hid (Rd wr (0) (w.heap.size) (B) (wris ws)) := HR0.out.below hbr
        have hzz_wr : w.heap.size ≤ wr.heap.size := HB.out.size
        have HDN := Lib.hid hdn
        have HDO := Lib.hid hdok
        have HPL := Lib.hid hpL
        have HPN := Lib.hid hpN
        clear hbr0 hbnow how hbr hdn hdok hpL hpN
        by_cases hlt : k < m
        · obtain ⟨b, off, x, hBe, _, _, hb, hks, hcell⟩ := HOB.out.flat (f := Wri.cells) (m := 3) (fun _ => rfl) (by omega) (k := k) (by rw [HM.out]; exact hlt)
          have hc0 : wr.cell? ⟨b, off + k * 3, none⟩ = some (.int .i64 x.file) := hcell 0 _ rfl
          have hcc1 : wr.cell? ⟨b, off + k * 3 + 1, none⟩ = some (.int .i64 x.pos) := hcell 1 _ rfl
          have hcc2 : wr.cell? ⟨b, off + k * 3 + 2, none⟩ = some (.string x.text) := hcell 2 _ rfl
          have HX := Lib.hid (HF.out x (List.mem_of_getElem? hks))
          have HDR := Lib.hid (dropW hks)
          have hI1 : (0 : Int) ≤ (k : Int) := by omega
          have hI2 : (k : Int) < (m : Int) := by omega
          clear hcell hks hb
          clear HOB
          subst hBe
          go_wp2_with fail
          obtain ⟨F, HF⟩ : ∃ F : Facts, Hid (F = fun iq xq tqs dsq uq => match iq with
            | 0 => xq.v = .agg #[.slice Ad n cd]
            | 1 => xq.v = .slice (some ⟨b, off, none⟩) m g
            | 2 => xq.v = .int .i64 (k : Int)
            | 3 => xq.v = .pointer (some ⟨b, off + k * 3, none⟩)
            | 4 => xq.v = .agg #[.int .i64 x.file, .int .i64 x.pos, .string x.text]
            | 5 => ∃ (A2 : Option Addr) (c2 : Nat), xq.v = .tuple #[.agg #[.slice A2 (putM d x).length c2], .bool (writeOk d x)] ∧ (Own uq xq.s xq.e A2 (strs (putM d x)))
            | 6 => (match tqs, dsq with | [], [yq] => ∃ (A2 : Option Addr) (c2 : Nat), yq.v = .tuple #[.agg #[.slice A2 (putM d x).length c2], .bool (writeOk d x)] ∧ xq.v = .tuple #[.agg #[.slice A2 (putM d x).length c2], .bool (writeOk d x)] | _, _ => False)
            | 7 => (match tqs, dsq with | [], [yq] => ∃ (A2 : Option Addr) (c2 : Nat), yq.v = .tuple #[.agg #[.slice A2 (putM d x).length c2], .bool (writeOk d x)] ∧ xq.v = .agg #[.slice A2 (putM d x).length c2] | _, _ => False)
            | 8 => (match tqs, dsq with | [], [yq] => ∃ (A2 : Option Addr) (c2 : Nat), yq.v = .tuple #[.agg #[.slice A2 (putM d x).length c2], .bool (writeOk d x)] ∧ xq.v = .bool (writeOk d x) | _, _ => False)
            | 9 => xq.v = .pointer (some ⟨xq.s, 0, none⟩) ∧ xq.s < xq.e ∧ NewBox uq xq.s [.slice none 0 0]
            | 10 => (match tqs, dsq with | [tq0], [yq] => tq0.v = .pointer (some ⟨tq0.s, 0, none⟩) ∧ tq0.s < tq0.e ∧ ∃ (A2 : Option Addr) (c2 : Nat), yq.v = .tuple #[.agg #[.slice A2 (putM d x).length c2], .bool (writeOk d x)] ∧ NewBox uq tq0.s [.slice A2 (putM d x).length c2] | _, _ => False)
            | 11 => (match tqs, dsq with | [], [yq] => ∃ (A2 : Option Addr) (c2 : Nat), yq.v = .tuple #[.agg #[.slice A2 (putM d x).length c2], .bool (writeOk d x)] ∧ xq.v = .bool (writeOk d x) | _, _ => False)
            | _ => False) := ⟨_, rfl⟩
          refine wp_region_facts [[], [], [], [], [], [], [5], [5], [5], [], [5], [5]] [[], [], [], [], [], [], [], [], [], [], [9], []] [some 31, some 32, some 33, some 34, some 35, some 36, some 30, some 37, some 38, some 8, none, some 9] none 0 0 (.inl rfl) F (by kernel_rfl) (by kernel_rfl) (by kernel_rfl) ?_ ⟨?_, ?_, ?_, ?_, ?_, ?_, ?_, ?_, ?_, ?_, ?_, ?_, trivial⟩ ?_
          · rw [HF.out]; intro iq xq tqs dsq uq u' hi hf hs hW hx hbk
            have kx : ∀ b, xq.s ≤ b → b < xq.e → u'.heap[b]? = uq.heap[b]? := fun b h1 h2 => hbk b (.inr (.inl ⟨h1, h2⟩))
            have kt : ∀ t ∈ tqs, ∀ b, t.s ≤ b → b < t.e → u'.heap[b]? = uq.heap[b]? := fun t ht b h1 h2 => hbk b (.inr (.inr ⟨t, ht, h1, h2⟩))
            match iq with
            | 0 => exact hf
            | 1 => exact hf
            | 2 => exact hf
            | 3 => exact hf
            | 4 => exact hf
            | 5 => obtain ⟨A2, c2, hv, p0⟩ := hf; exact ⟨A2, c2, hv, p0.keep hs kx⟩
            | 6 => exact hf
            | 7 => exact hf
            | 8 => exact hf
            | 9 => exact ⟨hf.1, hf.2.1, hf.2.2.keep hs (kx _ (Nat.le_refl _) hf.2.1)⟩
            | 10 => match tqs, dsq, hf with | [tq0], [yq], hf => obtain ⟨h1, h2, A2, c2, hv, hb⟩ := hf; exact ⟨h1, h2, A2, c2, hv, hb.keep hs (kt tq0 List.mem_cons_self _ (Nat.le_refl _) h2)⟩
            | 11 => exact hf
          · intro gh ρ u hc hf1 hg1 hd h0 hb he ha hF
            first | (replace hb : Below wr.heap.size wr u := hb.drew.below (by decide +kernel)) | (replace hb : Only (0) (0 + 1) wr u := hb.drew.only)
            have hbz : wr.heap.size ≤ u.heap.size := hb.size
            have r6 : ρ (.tmp 6) = .pointer (some ⟨wa.heap.size, 0, none⟩) := (h0 6 (by decide +kernel)).trans rfl
            have q_now : ∀ o, u.cell? ⟨wa.heap.size, o, none⟩ = [.slice Ad n cd][o]? := by first | exact (HXnow.out.below hb).2.1 | exact (HXnow.out.only hb (by omega)).2.1
            have k_now : wa.heap.size < u.heap.size := by have := HXnow.out.1; omega
            replace hc0 := cell_later hb hc0
            replace hcc1 := cell_later hb hcc1
            replace hcc2 := cell_later hb hcc2
            clear  hd h0 he ha hF
            go_simp
            rw [HF.out]
            exact ⟨OnlyL.refl _ _, rfl⟩
          · intro gh ρ u hc hf1 hg1 hd h0 hb he ha hF
            first | (replace hb : Below wr.heap.size wr u := hb.drew.below (by decide +kernel)) | (replace hb : Only (0) (0 + 1) wr u := hb.drew.only)
            have hbz : wr.heap.size ≤ u.heap.size := hb.size
            have r1 : ρ (.tmp 1) = .slice (some ⟨b, off, none⟩) m g := (h0 1 (by decide +kernel)).trans rfl
            clear  hd h0 he ha hF
            go_simp
            rw [HF.out]
            exact ⟨OnlyL.refl _ _, rfl⟩
          · intro gh ρ u hc hf1 hg1 hd h0 hb he ha hF
            first | (replace hb : Below wr.heap.size wr u := hb.drew.below (by decide +kernel)) | (replace hb : Only (0) (0 + 1) wr u := hb.drew.only)
            have hbz : wr.heap.size ≤ u.heap.size := hb.size
            have r7 : ρ (.tmp 7) = .int .i64 (k : Int) := (h0 7 (by decide +kernel)).trans rfl
            clear  hd h0 he ha hF
            go_simp
            rw [HF.out]
            exact ⟨OnlyL.refl _ _, rfl⟩
          · intro gh ρ u hc hf1 hg1 hd h0 hb he ha hF
            first | (replace hb : Below wr.heap.size wr u := hb.drew.below (by decide +kernel)) | (replace hb : Only (0) (0 + 1) wr u := hb.drew.only)
            have hbz : wr.heap.size ≤ u.heap.size := hb.size
            have f1 : (gh 1).v = .slice (some ⟨b, off, none⟩) m g := by have h := hF 1 (by decide +kernel) (by decide +kernel); rw [HF.out] at h; exact h
            have hv1 := f1
            have r32 : ρ (.tmp 32) = .slice (some ⟨b, off, none⟩) m g := (hd 1 (by decide +kernel) 32 (by kernel_rfl)).trans hv1
            have f2 : (gh 2).v = .int .i64 (k : Int) := by have h := hF 2 (by decide +kernel) (by decide +kernel); rw [HF.out] at h; exact h
            have hv2 := f2
            have r33 : ρ (.tmp 33) = .int .i64 (k : Int) := (hd 2 (by decide +kernel) 33 (by kernel_rfl)).trans hv2
            clear f1 hv1 f2 hv2 hd h0 he ha hF
            go_simp
            rw [HF.out]
            exact ⟨OnlyL.refl _ _, rfl⟩
          · intro gh ρ u hc hf1 hg1 hd h0 hb he ha hF
            first | (replace hb : Below wr.heap.size wr u := hb.drew.below (by decide +kernel)) | (replace hb : Only (0) (0 + 1) wr u := hb.drew.only)
            have hbz : wr.heap.size ≤ u.heap.size := hb.size
            have f3 : (gh 3).v = .pointer (some ⟨b, off + k * 3, none⟩) := by have h := hF 3 (by decide +kernel) (by decide +kernel); rw [HF.out] at h; exact h
            have hv3 := f3
            have r34 : ρ (.tmp 34) = .pointer (some ⟨b, off + k * 3, none⟩) := (hd 3 (by decide +kernel) 34 (by kernel_rfl)).trans hv3
            have q_now : ∀ o, u.cell? ⟨wa.heap.size, o, none⟩ = [.slice Ad n cd][o]? := by first | exact (HXnow.out.below hb).2.1 | exact (HXnow.out.only hb (by omega)).2.1
            have k_now : wa.heap.size < u.heap.size := by have := HXnow.out.1; omega
            replace hc0 := cell_later hb hc0
            replace hcc1 := cell_later hb hcc1
            replace hcc2 := cell_later hb hcc2
            clear f3 hv3 hd h0 he ha hF
            go_simp
            rw [HF.out]
            exact ⟨OnlyL.refl _ _, rfl⟩
          · intro gh ρ u hc hf1 hg1 hd h0 hb he ha hF
            first | (replace hb : Below wr.heap.size wr u := hb.drew.below (by decide +kernel)) | (replace hb : Only (0) (0 + 1) wr u := hb.drew.only)
            have hbz : wr.heap.size ≤ u.heap.size := hb.size
            have f0 : (gh 0).v = .agg #[.slice Ad n cd] := by have h := hF 0 (by decide +kernel) (by decide +kernel); rw [HF.out] at h; exact h
            have hv0 := f0
            have r31 : ρ (.tmp 31) = .agg #[.slice Ad n cd] := (hd 0 (by decide +kernel) 31 (by kernel_rfl)).trans hv0
            have f4 : (gh 4).v = .agg #[.int .i64 x.file, .int .i64 x.pos, .string x.text] := by have h := hF 4 (by decide +kernel) (by decide +kernel); rw [HF.out] at h; exact h
            have hv4 := f4
            have r35 : ρ (.tmp 35) = .agg #[.int .i64 x.file, .int .i64 x.pos, .string x.text] := (hd 4 (by decide +kernel) 35 (by kernel_rfl)).trans hv4
            clear f0 hv0 f4 hv4 hd h0 he ha hF
            go_simp
            have q_now := (HXnow.out.below hb)
            refine (specPut_c Ad cd _ _ n d x _ (HON.out.rd.below hb) HDN.out hl HX.out).mono ?_
            rintro e u1 ⟨A2, c2, rfl, ho, hb1⟩
            rw [HF.out]
            exact ⟨_, rfl, OnlyL.of_below hb1, A2, c2, rfl, ho⟩
          · intro gh ρ u hc hf1 hg1 hd h0 hb he ha hF
            first | (replace hb : Below wr.heap.size wr u := hb.drew.below (by decide +kernel)) | (replace hb : Only (0) (0 + 1) wr u := hb.drew.only)
            have hbz : wr.heap.size ≤ u.heap.size := hb.size
            have f5 : ∃ (A2 : Option Addr) (c2 : Nat), (gh 5).v = .tuple #[.agg #[.slice A2 (putM d x).length c2], .bool (writeOk d x)] ∧ (Own u (gh 5).s (gh 5).e A2 (strs (putM d x))) := by have h := hF 5 (by decide +kernel) (by decide +kernel); rw [HF.out] at h; exact h
            obtain ⟨A2, c2, hv5, g5_0⟩ := f5
            have hrt := hv5
            have r36 : ρ (.tmp 36) = .tuple #[.agg #[.slice A2 (putM d x).length c2], .bool (writeOk d x)] := (hd 5 (by decide +kernel) 36 (by kernel_rfl)).trans hv5
            have HRT := Lib.hid hrt
            clear hv5 hrt hd h0 he ha hF
            go_simp
            rw [HF.out]
            exact ⟨OnlyL.refl _ _, A2, c2, HRT.out, rfl⟩
          · intro gh ρ u hc hf1 hg1 hd h0 hb he ha hF
            first | (replace hb : Below wr.heap.size wr u := hb.drew.below (by decide +kernel)) | (replace hb : Only (0) (0 + 1) wr u := hb.drew.only)
            have hbz : wr.heap.size ≤ u.heap.size := hb.size
            have f6 : ∃ (A2 : Option Addr) (c2 : Nat), (gh 5).v = .tuple #[.agg #[.slice A2 (putM d x).length c2], .bool (writeOk d x)] ∧ (gh 6).v = .tuple #[.agg #[.slice A2 (putM d x).length c2], .bool (writeOk d x)] := by have h := hF 6 (by decide +kernel) (by decide +kernel); rw [HF.out] at h; exact h
            obtain ⟨A2, c2, hrt, hv6⟩ := f6
            have r30 : ρ (.tmp 30) = .tuple #[.agg #[.slice A2 (putM d x).length c2], .bool (writeOk d x)] := (hd 6 (by decide +kernel) 30 (by kernel_rfl)).trans hv6
            have HRT := Lib.hid hrt
            clear hv6 hrt hd h0 he ha hF
            go_simp
            rw [HF.out]
            exact ⟨OnlyL.refl _ _, A2, c2, HRT.out, rfl⟩
          · intro gh ρ u hc hf1 hg1 hd h0 hb he ha hF
            first | (replace hb : Below wr.heap.size wr u := hb.drew.below (by decide +kernel)) | (replace hb : Only (0) (0 + 1) wr u := hb.drew.only)
            have hbz : wr.heap.size ≤ u.heap.size := hb.size
            have f6 : ∃ (A2 : Option Addr) (c2 : Nat), (gh 5).v = .tuple #[.agg #[.slice A2 (putM d x).length c2], .bool (writeOk d x)] ∧ (gh 6).v = .tuple #[.agg #[.slice A2 (putM d x).length c2], .bool (writeOk d x)] := by have h := hF 6 (by decide +kernel) (by decide +kernel); rw [HF.out] at h; exact h
            obtain ⟨A2, c2, hrt, hv6⟩ := f6
            have r30 : ρ (.tmp 30) = .tuple #[.agg #[.slice A2 (putM d x).length c2], .bool (writeOk d x)] := (hd 6 (by decide +kernel) 30 (by kernel_rfl)).trans hv6
            have HRT := Lib.hid hrt
            clear hv6 hrt hd h0 he ha hF
            go_simp
            rw [HF.out]
            exact ⟨OnlyL.refl _ _, A2, c2, HRT.out, rfl⟩
          · intro gh ρ u hc hf1 hg1 hd h0 hb he ha hF
            first | (replace hb : Below wr.heap.size wr u := hb.drew.below (by decide +kernel)) | (replace hb : Only (0) (0 + 1) wr u := hb.drew.only)
            have hbz : wr.heap.size ≤ u.heap.size := hb.size
            clear  hd h0 he ha hF
            go_simp
            rw [HF.out]
            exact ⟨OnlyL.of_below ((Below.refl _ _).alloc (Nat.le_refl _) _), rfl, by simp, NewBox.new _ _ _⟩
          · intro gh ρ u hc hf1 hg1 hd h0 hb he ha hF
            first | (replace hb : Below wr.heap.size wr u := hb.drew.below (by decide +kernel)) | (replace hb : Only (0) (0 + 1) wr u := hb.drew.only)
            have hbz : wr.heap.size ≤ u.heap.size := hb.size
            have f9 : (gh 9).v = .pointer (some ⟨(gh 9).s, 0, none⟩) ∧ (gh 9).s < (gh 9).e ∧ NewBox u (gh 9).s [.slice none 0 0] := by have h := hF 9 (by decide +kernel) (by decide +kernel); rw [HF.out] at h; exact h
            obtain ⟨hv9, hpl, hpz, hpc, hpf⟩ := f9
            have r8 : ρ (.tmp 8) = .pointer (some ⟨(gh 9).s, 0, none⟩) := (hd 9 (by decide +kernel) 8 (by kernel_rfl)).trans hv9
            have HP := Lib.hid hv9
            have f7 : ∃ (A2 : Option Addr) (c2 : Nat), (gh 5).v = .tuple #[.agg #[.slice A2 (putM d x).length c2], .bool (writeOk d x)] ∧ (gh 7).v = .agg #[.slice A2 (putM d x).length c2] := by have h := hF 7 (by decide +kernel) (by decide +kernel); rw [HF.out] at h; exact h
            obtain ⟨A2, c2, hrt, hv7⟩ := f7
            have r37 : ρ (.tmp 37) = .agg #[.slice A2 (putM d x).length c2] := (hd 7 (by decide +kernel) 37 (by kernel_rfl)).trans hv7
            have HRT := Lib.hid hrt
            obtain ⟨_, _, _⟩ := he 9 (by decide +kernel)
            clear hv9 hv7 hrt hd h0 he ha hF
            go_simp
            rw [HF.out]
            refine ⟨?_, HP.out, hpl, A2, c2, HRT.out, ?_⟩
            · refine OnlyL.of_only (t := gh 9) ?_; refine Only.setCell ?_ (by exact Nat.le_refl _) (by exact hpl) _; exact Only.refl _ _ _
            · show NewBox _ (gh 9).s _
              exact ⟨by simpa [World.setCell] using hpz, fun o => by rcases o with _ | o <;> go_simp, fun o => by go_simp⟩
          · intro gh ρ u hc hf1 hg1 hd h0 hb he ha hF
            first | (replace hb : Below wr.heap.size wr u := hb.drew.below (by decide +kernel)) | (replace hb : Only (0) (0 + 1) wr u := hb.drew.only)
            have hbz : wr.heap.size ≤ u.heap.size := hb.size
            have f8 : ∃ (A2 : Option Addr) (c2 : Nat), (gh 5).v = .tuple #[.agg #[.slice A2 (putM d x).length c2], .bool (writeOk d x)] ∧ (gh 8).v = .bool (writeOk d x) := by have h := hF 8 (by decide +kernel) (by decide +kernel); rw [HF.out] at h; exact h
            obtain ⟨A2, c2, hrt, hv8⟩ := f8
            have r38 : ρ (.tmp 38) = .bool (writeOk d x) := (hd 8 (by decide +kernel) 38 (by kernel_rfl)).trans hv8
            have HRT := Lib.hid hrt
            clear hv8 hrt hd h0 he ha hF
            go_simp
            rw [HF.out]
            exact ⟨OnlyL.refl _ _, A2, c2, HRT.out, rfl⟩
          intro gh w5 hB hE hA hF
          replace hB : Below wr.heap.size wr w5 := hB.below rfl
          have f0 : (gh 0).v = .agg #[.slice Ad n cd] := by have h := hF 0 (by decide +kernel) (by decide +kernel); rw [HF.out] at h; exact h
          have f1 : (gh 1).v = .slice (some ⟨b, off, none⟩) m g := by have h := hF 1 (by decide +kernel) (by decide +kernel); rw [HF.out] at h; exact h
          have f2 : (gh 2).v = .int .i64 (k : Int) := by have h := hF 2 (by decide +kernel) (by decide +kernel); rw [HF.out] at h; exact h
          have f3 : (gh 3).v = .pointer (some ⟨b, off + k * 3, none⟩) := by have h := hF 3 (by decide +kernel) (by decide +kernel); rw [HF.out] at h; exact h
          have f4 : (gh 4).v = .agg #[.int .i64 x.file, .int .i64 x.pos, .string x.text] := by have h := hF 4 (by decide +kernel) (by decide +kernel); rw [HF.out] at h; exact h
          have f5 : ∃ (A2 : Option Addr) (c2 : Nat), (gh 5).v = .tuple #[.agg #[.slice A2 (putM d x).length c2], .bool (writeOk d x)] ∧ (Own w5 (gh 5).s (gh 5).e A2 (strs (putM d x))) := by have h := hF 5 (by decide +kernel) (by decide +kernel); rw [HF.out] at h; exact h
          have f6 : ∃ (A2 : Option Addr) (c2 : Nat), (gh 5).v = .tuple #[.agg #[.slice A2 (putM d x).length c2], .bool (writeOk d x)] ∧ (gh 6).v = .tuple #[.agg #[.slice A2 (putM d x).length c2], .bool (writeOk d x)] := by have h := hF 6 (by decide +kernel) (by decide +kernel); rw [HF.out] at h; exact h
          have f7 : ∃ (A2 : Option Addr) (c2 : Nat), (gh 5).v = .tuple #[.agg #[.slice A2 (putM d x).length c2], .bool (writeOk d x)] ∧ (gh 7).v = .agg #[.slice A2 (putM d x).length c2] := by have h := hF 7 (by decide +kernel) (by decide +kernel); rw [HF.out] at h; exact h
          have f8 : ∃ (A2 : Option Addr) (c2 : Nat), (gh 5).v = .tuple #[.agg #[.slice A2 (putM d x).length c2], .bool (writeOk d x)] ∧ (gh 8).v = .bool (writeOk d x) := by have h := hF 8 (by decide +kernel) (by decide +kernel); rw [HF.out] at h; exact h
          have f10 : (gh 9).v = .pointer (some ⟨(gh 9).s, 0, none⟩) ∧ (gh 9).s < (gh 9).e ∧ ∃ (A2 : Option Addr) (c2 : Nat), (gh 5).v = .tuple #[.agg #[.slice A2 (putM d x).length c2], .bool (writeOk d x)] ∧ NewBox w5 (gh 9).s [.slice A2 (putM d x).length c2] := by have h := hF 10 (by decide +kernel) (by decide +kernel); rw [HF.out] at h; exact h
          have f11 : ∃ (A2 : Option Addr) (c2 : Nat), (gh 5).v = .tuple #[.agg #[.slice A2 (putM d x).length c2], .bool (writeOk d x)] ∧ (gh 11).v = .bool (writeOk d x) := by have h := hF 11 (by decide +kernel) (by decide +kernel); rw [HF.out] at h; exact h
          obtain ⟨A2, c2, hv5, ho2⟩ := f5
          have hv0 := f0
          have hv1 := f1
          have hv2 := f2
          have hv3 := f3
          have hv4 := f4
          obtain ⟨A2_6, c2_6, hu, hv6⟩ := f6
          replace hu := hv5.symm.trans hu
          simp at hu
          obtain ⟨rfl, rfl⟩ := hu
          obtain ⟨A2_7, c2_7, hu, hv7⟩ := f7
          replace hu := hv5.symm.trans hu
          simp at hu
          obtain ⟨rfl, rfl⟩ := hu
          obtain ⟨A2_8, c2_8, hu, hv8⟩ := f8
          replace hu := hv5.symm.trans hu
          simp at hu
          obtain ⟨rfl, rfl⟩ := hu
          obtain ⟨hv9, hl9, f10⟩ := f10
          obtain ⟨A2_10, c2_10, hu, hx10⟩ := f10
          replace hu := hv5.symm.trans hu
          simp at hu
          obtain ⟨rfl, rfl⟩ := hu
          obtain ⟨A2_11, c2_11, hu, hv11⟩ := f11
          replace hu := hv5.symm.trans hu
          simp at hu
          obtain ⟨rfl, rfl⟩ := hu
          obtain ⟨hs5, hse5, he5⟩ := hE 5 (by decide +kernel)
          obtain ⟨hs9, hse9, he9⟩ := hE 9 (by decide +kernel)
          have hdj5_5_9 := hA 5 (by decide +kernel) 9 (by decide +kernel) (by decide)
          change wr.heap.size ≤ _ at hs5 hs9
          clear hE hA hF
          simp only [putDs, Nat.reduceAdd, hv0, hv1, hv2, hv3, hv4, hv5, hv6, hv7, hv8, hv9, hv11]
          clear hv0 hv1 hv2 hv3 hv4 hv5 hv6 hv7 hv8 hv9 hv11
          generalize (gh 5).s = s5_5 at *
          generalize (gh 5).e = e5_5 at *
          generalize (gh 9).s = s5_9 at *
          generalize (gh 9).e = e5_9 at *
          clear HF
          have hb := hB
          clear hB
          have hzw5 : wr.heap.size ≤ w5.heap.size := hb.size
          have hzzw5 : w.heap.size ≤ w5.heap.size := by omega
          replace HB : Hid (Below w.heap.size w w5) := below_then HB.out hb HB.out.size
          replace HON : Hid (Own w5 (bo) (bo + 1) (Ad) (strs d)) := HON.out.below hb
          replace HXr0 : Hid (NewBox w5 (w.heap.size + 1) [.slice none 0 0]) := HXr0.out.below hb
          clear hxr0 hfr0 hkr0
          have hxr0 := HXr0.out.2.1
          have hfr0 := HXr0.out.2.2
          have hkr0 := HXr0.out.1
          replace HXnow : Hid (NewBox w5 (wa.heap.size) [.slice Ad n cd]) := HXnow.out.below hb
          clear hxnow hfnow hknow
          have hxnow := HXnow.out.2.1
          have hfnow := HXnow.out.2.2
          have hknow := HXnow.out.1
          clear hb
          have HXnext : Hid (NewBox w5 (s5_9) [.slice A2 (putM d x).length c2]) := hx10
          have hxnext := HXnext.out.2.1
          have hfnext := HXnext.out.2.2
          have hknext := HXnext.out.1
          clear hx10
          have HO2 := Lib.hid ho2
          clear ho2
          rcases h8 : writeOk d x with _ | _
          · have h7 : Hid (fitsD d x = false) := by have h := h8; rw [writeOk, HDO.out, Bool.true_and] at h; exact h
            have e1 : Hid (putAllL l ws = d) := by rw [Hid, HPL.out, HDR.out, putAllL, h7.out]; rfl
            have e2 : Hid (putAllN l ws = k) := by rw [Hid, HPN.out, HDR.out, putAllN, h7.out]; rfl
            clear h8
            go_wp2
            refine bodyPost_ret (v := .tuple #[.agg #[.slice Ad n cd], .int .i64 k]) (by simp [results, Try.results57, go_sem, World.cell?_setCell_same _ _ _ (HXr0.out.cell (o := 0) rfl)]) rfl ?_
            exact ⟨Ad, cd, by rw [hpm.out, hpk.out, hpl.out, e2.out], by rw [hpm.out, e1.out]; exact ((by (repeat (first | (with_reducible refine Own.alloc ?_ _) | (with_reducible refine Own.drew ?_) | ((with_reducible refine Own.setCell ?_ ?_ _); rotate_left 1; (focus (first | omega | (simp; done) | (simp; omega)))))); exact HON.out) : Own _ (bo) (bo + 1) Ad (strs d)).mono (by omega) (by first | omega | (simp [World.setCell]; done) | (simp [World.setCell]; omega)) (by first | omega | (simp [World.setCell]; done) | (simp [World.setCell]; omega)), (by ((repeat (first | ((with_reducible refine Below.alloc ?_ ?_ _); rotate_left 1; (focus (first | omega | (simp; done) | (simp; omega)))) | (with_reducible refine Below.drew ?_) | ((with_reducible refine Below.setCell ?_ ?_ _); rotate_left 1; (focus (first | omega | (simp; done) | (simp; omega)))))); exact HB.out))⟩
          · have H8 := Lib.hid h8
            have h7 : Hid (fitsD d x = true) := by have h := h8; rw [writeOk, HDO.out, Bool.true_and] at h; exact h
            have e0 : Hid (putM d x = putL d x) := putL_fit h8
            have e1 : Hid (putAllL l ws = putAllL (putL d x) (ws.drop (k + 1))) := by rw [Hid, HPL.out, HDR.out, putAllL, h7.out]; rfl
            have e2 : Hid (putAllN l ws = k + 1 + putAllN (putL d x) (ws.drop (k + 1))) := by rw [Hid, HPN.out, HDR.out, putAllN, h7.out, if_pos rfl]; omega
            have e3 : Hid (diskOk (putL d x) = true) := diskOk_of (by rw [putL_len]; exact diskOk_len HDO.out) (putL_all (diskOk_all HDO.out) h7.out)
            have e4 : Hid ((putL d x).length = n) := by rw [Hid, putL_len, HDN.out]
            have e5 : (putM d x).length = n := by rw [e0.out, e4.out]
            clear h8
            go_wp2
            go_roundw
            case rel => exact ⟨k + 1, putL d x, A2, c2, by omega, by go_num, e4.out, e3.out, e1.out, e2.out, (by (repeat (first | (with_reducible refine NewBox.alloc ?_ _) | (with_reducible refine NewBox.drew ?_) | ((with_reducible refine NewBox.setCell ?_ ?_ _); rotate_left 1; (focus (first | omega | (simp; done) | (simp; omega)))))); exact HXr0.out), (by exact ⟨by first | omega | (simp [World.setCell]; done) | (simp [World.setCell]; omega), fun o => by rcases o with _ | o <;> go_simp, fun o => by go_simp⟩), by
                rw [← e0.out]
                obtain ⟨b2, off2, h1, h2, h3, h4, h5⟩ := HO2.out (by intro e; rw [strs, List.map_eq_nil_iff] at e; have h1 := e4.out; have h2 := diskOk_len HDO.out; have h3 := HDN.out; rw [← e0.out, e] at h1; simp at h1; omega)
                exact ⟨b2, by omega, by omega, by simp [World.setCell]; omega, by have h := HO2.out; rw [h1] at h ⊢; exact h.tight.setCell (by first | omega | (simp; omega)) _⟩, (by ((repeat (first | ((with_reducible refine Below.alloc ?_ ?_ _); rotate_left 1; (focus (first | omega | (simp; done) | (simp; omega)))) | (with_reducible refine Below.drew ?_) | ((with_reducible refine Below.setCell ?_ ?_ _); rotate_left 1; (focus (first | omega | (simp; done) | (simp; omega)))))); exact HB.out)), by simp [World.setCell]; omega⟩
            case measure => simp [intOf]; omega
        · obtain rfl : k = m := by omega
          have hdr : ws.drop k = [] := List.drop_eq_nil_of_le (by rw [HM.out]; exact Nat.le_refl _)
          have e1 : Hid (putAllL l ws = d) := by rw [Hid, HPL.out, hdr]; rfl
          have e2 : Hid (putAllN l ws = k) := by rw [Hid, HPN.out, hdr]; rfl
          clear hdr
          go_wp2
          refine bodyPost_ret (v := .tuple #[.agg #[.slice Ad n cd], .int .i64 k]) (by simp [results, Try.results57, go_sem, World.cell?_setCell_same _ _ _ (HXr0.out.cell (o := 0) rfl)]) rfl ?_
          exact ⟨Ad, cd, by rw [hpm.out, hpk.out, hpl.out, e2.out], by rw [hpm.out, e1.out]; exact ((by (repeat (first | (with_reducible refine Own.alloc ?_ _) | (with_reducible refine Own.drew ?_) | ((with_reducible refine Own.setCell ?_ ?_ _); rotate_left 1; (focus (first | omega | (simp; done) | (simp; omega)))))); exact HON.out) : Own _ (bo) (bo + 1) Ad (strs d)).mono (by omega) (by first | omega | (simp [World.setCell]; done) | (simp [World.setCell]; omega)) (by first | omega | (simp [World.setCell]; done) | (simp [World.setCell]; omega)), (by ((repeat (first | ((with_reducible refine Below.alloc ?_ ?_ _); rotate_left 1; (focus (first | omega | (simp; done) | (simp; omega)))) | (with_reducible refine Below.drew ?_) | ((with_reducible refine Below.setCell ?_ ?_ _); rotate_left 1; (focus (first | omega | (simp; done) | (simp; omega)))))); exact HB.out))⟩
end Go.Proofs.Ytjmhebmjlnianaa
