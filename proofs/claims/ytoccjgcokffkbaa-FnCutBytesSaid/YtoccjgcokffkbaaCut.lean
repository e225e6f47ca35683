/- CutAt. -/
import Derived.Test.YtoccjgcokffkbaaPutAll
namespace Go.Proofs.Ytoccjgcokffkbaa
set_option linter.unusedVariables false
set_option linter.unusedSimpArgs false
open Go.RowKit

theorem wris_app (a b : List Wri) : wris (a ++ b) = wris a ++ wris b := by rw [wris, List.flatMap_append]; rfl
theorem wris_pos {l : List Wri} (h : l ≠ []) : wris l ≠ [] := fun e => by
 have := congrArg List.length e
 rw [wris_len] at this
 have h2 := List.length_pos_iff.2 h
 simp at this
 omega
def cutW (x : Wri) (p : Int) : Wri := ⟨x.file, x.pos, x.text.extract 0 p.toNat⟩
def roomOf (ws : List Wri) (whole : Int) : Int := match ws[whole.toNat]? with | some x => (x.text.size : Nat) | none => 0
def cutPre (d : List ByteArray) (ws : List Wri) (whole part : Int) : Bool := diskOk d && (decide (ws.length ≤ 600) && (inR whole 0 ws.length && inR part 0 (roomOf ws whole)))
def cutTail (ws : List Wri) (whole part : Int) : List Wri := if 0 < part then (match ws[whole.toNat]? with | some x => [cutW x part] | none => []) else []
def cutDone (ws : List Wri) (whole part : Int) : List Wri := ws.take whole.toNat ++ cutTail ws whole part
def cutOkM (d : List ByteArray) (ws : List Wri) (whole part : Int) : Bool := cutPre d ws whole part && decide (putAllN d (cutDone ws whole part) = (cutDone ws whole part).length)
def cutAtM (d : List ByteArray) (ws : List Wri) (whole part : Int) : List ByteArray := if cutOkM d ws whole part then putAllL d (cutDone ws whole part) else []

theorem putAllN_le : ∀ (ws : List Wri) (d : List ByteArray), putAllN d ws ≤ ws.length
 | [], _ => Nat.le_refl _
 | x :: r, d => by
   rw [putAllN]; split
   ·have := putAllN_le r (putL d x); simp; omega
   ·exact Nat.zero_le _
theorem putAllL_ok : ∀ (ws : List Wri) (d : List ByteArray), diskOk d = true → diskOk (putAllL d ws) = true
 | [], _, h => h
 | x :: r, d, h => by
   rw [putAllL]; split
   ·rename_i hf
    exact putAllL_ok r _ (diskOk_of (by rw [putL_len]; exact diskOk_len h) (putL_all (diskOk_all h) hf))
   ·exact h
theorem putAll_snoc : ∀ (ws : List Wri) (d : List ByteArray) (x : Wri), putAllN d ws = ws.length →
  putAllL d (ws ++ [x]) = (if fitsD (putAllL d ws) x then putL (putAllL d ws) x else putAllL d ws) ∧ putAllN d (ws ++ [x]) = (if fitsD (putAllL d ws) x then ws.length + 1 else ws.length)
 | [], d, x, _ => by
   simp only [List.nil_append, putAllL, putAllN]
   by_cases h : fitsD d x = true
   ·simp [h]
   ·simp [h]
 | y :: r, d, x, h => by
   rw [putAllN] at h
   by_cases hy : fitsD d y = true
   ·rw [if_pos hy] at h
    have ih := putAll_snoc r (putL d y) x (by simpa using h)
    simp only [List.cons_append, putAllL, putAllN, hy, if_true]
    rw [ih.1, ih.2]
    refine ⟨rfl, ?_⟩
    split <;> simp
   ·rw [if_neg hy] at h; simp at h
theorem putAll_stop : ∀ (ws : List Wri) (d : List ByteArray) (r : List Wri), putAllN d ws ≠ ws.length → putAllN d (ws ++ r) = putAllN d ws
 | [], d, r, h => absurd rfl h
 | y :: s, d, r, h => by
   simp only [List.cons_append, putAllN]
   by_cases hy : fitsD d y = true
   ·rw [putAllN, if_pos hy] at h
    rw [if_pos hy, if_pos hy, putAll_stop s _ r (fun e => h (by rw [e]; rfl))]
   ·rw [if_neg hy, if_neg hy]
theorem cutAtM_no {d : List ByteArray} {ws : List Wri} {whole part : Int} (h : cutOkM d ws whole part = false) : cutAtM d ws whole part = [] := by rw [cutAtM, h]; rfl
theorem cutPre_no {d : List ByteArray} {ws : List Wri} {whole part : Int} (h : cutPre d ws whole part = false) : cutOkM d ws whole part = false ∧ cutAtM d ws whole part = [] := by
 have h1 : cutOkM d ws whole part = false := by rw [cutOkM, h, Bool.false_and]
 exact ⟨h1, cutAtM_no h1⟩

theorem Rd.front {w : World} {lo hi : Nat} {A : Option Addr} {xs ys : List Value} (h : Rd w lo hi A (xs ++ ys)) : Rd w lo hi A xs := fun hn =>
 let ⟨b, off, h1, h2, h3, h4, h5⟩ := h (by simp [hn])
 ⟨b, off, h1, h2, h3, h4, fun j u hu => h5 j u (by rw [List.getElem?_append_left (List.getElem?_eq_some_iff.1 hu).1]; exact hu)⟩
theorem wris_take (ws : List Wri) (k : Nat) : wris ws = wris (ws.take k) ++ wris (ws.drop k) := by rw [← wris_app, List.take_append_drop]
theorem cutDone_0 {ws : List Wri} {k : Nat} : cutDone ws k (0 : Nat) = ws.take k := by
 rw [cutDone, cutTail, Int.toNat_natCast, if_neg (by omega), List.append_nil]
theorem cutDone_p {ws : List Wri} {k ps : Nat} {x : Wri} (h : ws[k]? = some x) (hp : 0 < ps) : cutDone ws k ps = ws.take k ++ [cutW x ps] := by
 rw [cutDone, cutTail, Int.toNat_natCast, if_pos (by omega), h]
theorem cutW_fits {x : Wri} {ps : Nat} (h : x.fits) : (cutW x ps).fits := ⟨h.1, h.2.1, by
 have := h.2.2
 show (x.text.extract 0 (ps : Int).toNat).size ≤ maxLen
 rw [ByteArray.size_extract]; omega⟩
theorem putAllM_yes {l : List ByteArray} {ws : List Wri} (h : diskOk l = true) (hl : ws.length ≤ 600) : putAllM l ws = putAllL l ws ∧ putAllK l ws = (putAllN l ws : Nat) := by
 have h2 : (diskOk l && decide (ws.length ≤ 600)) = true := by rw [h]; simpa using hl
 rw [putAllM, putAllK, if_pos h2, if_pos h2]; exact ⟨rfl, rfl⟩

set_option maxRecDepth 100000 in
set_option maxHeartbeats 4000000 in
theorem implCutAt_c (A : Option Addr) (c lo hi n : Nat) (l : List ByteArray) (B : Option Addr) (g lo' hi' m : Nat) (ws : List Wri) (z p : Int) (w : World) (hr : Rd w lo hi A (strs l)) (hn : l.length = n) (hl : n ≤ 1048576)
  (hr' : Rd w lo' hi' B (wris ws)) (hm : ws.length = m) (hml : m ≤ 1048576) (hg : m ≤ g) (hB : B = none → g = 0) (hf : ∀ x ∈ ws, x.fits) (hz : I64 z) (hp : I64 p) :
  Calls Try.prog 11 #[.agg #[.slice A n c], .slice B m g, .int .i64 z, .int .i64 p] w fun e w' => ∃ (A' : Option Addr) (c' : Nat), e = .returned (.tuple #[.agg #[.slice A' (cutAtM l ws z p).length c'], .bool (cutOkM l ws z p)]) ∧ Own w' w.heap.size w'.heap.size A' (strs (cutAtM l ws z p)) ∧ Below w.heap.size w w' := by
 have HF := Lib.hid hf
 have HN := Lib.hid hn
 have HM := Lib.hid hm
 have HBN := Lib.hid hB
 obtain ⟨hz1, hz2⟩ := hz
 obtain ⟨hp1, hp2⟩ := hp
 clear hf hn hm hB
 go_enter Try.func11, Try.ntmps11
 have HB : Hid (Below w.heap.size w w) := Below.refl _ _
 have HOA : Hid (Rd w (0) (w.heap.size) (A) (strs l)) := Rd.base hr
 have HR0 := Lib.hid (Rd.base hr')
 clear hr hr'
 go_wp2_with fail
 refine calls_named (fun w1 hw => ?_)
 have hz1 : w.heap.size + 2 ≤ w1.heap.size := by rw [hw]; first | omega | (simp [World.setCell]; done) | (simp [World.setCell]; omega)
 have hzz1 : w.heap.size ≤ w1.heap.size := by omega
 have hbn : Below w.heap.size w w1 := by rw [hw]; exact (by ((repeat (first | ((with_reducible refine Below.alloc ?_ ?_ _); rotate_left 1; (focus (first | omega | (simp; done) | (simp; omega)))) | (with_reducible refine Below.drew ?_) | ((with_reducible refine Below.setCell ?_ ?_ _); rotate_left 1; (focus (first | omega | (simp; done) | (simp; omega)))))); exact Below.refl _ _))
 replace HB := Lib.hid (below_then HB.out hbn HB.out.size)
 replace HOA := Lib.hid (HOA.out.below hbn)
 clear hbn
 have HXd : Hid (NewBox w1 (w.heap.size) [.slice A n c]) := by rw [Hid, hw]; exact ⟨by first | omega | (simp [World.setCell]; done) | (simp [World.setCell]; omega), fun o => by rcases o with _ | o <;> go_simp, fun o => by go_simp⟩
 have hxd := HXd.out.2.1
 have hfd := HXd.out.2.2
 have hkd := HXd.out.1
 have HXr0 : Hid (NewBox w1 (w.heap.size + 1) [.slice none 0 0]) := by rw [Hid, hw]; exact ⟨by first | omega | (simp [World.setCell]; done) | (simp [World.setCell]; omega), fun o => by rcases o with _ | o <;> go_simp, fun o => by go_simp⟩
 have hxr0 := HXr0.out.2.1
 have hfr0 := HXr0.out.2.2
 have hkr0 := HXr0.out.1
 clear hw
 refine (implDiskOk_c A c _ _ n l _ HOA.out HN.out hl).mono ?_
 rintro e w2 ⟨rfl, hb⟩
 have hzw2 : w1.heap.size ≤ w2.heap.size := hb.size
 have hzzw2 : w.heap.size ≤ w2.heap.size := by omega
 replace HB := Lib.hid (below_then HB.out hb HB.out.size)
 replace HOA := Lib.hid (HOA.out.below hb)
 replace HXd := Lib.hid (HXd.out.below hb)
 clear hxd hfd hkd
 have hxd := HXd.out.2.1
 have hfd := HXd.out.2.2
 have hkd := HXd.out.1
 replace HXr0 := Lib.hid (HXr0.out.below hb)
 clear hxr0 hfr0 hkr0
 have hxr0 := HXr0.out.2.1
 have hfr0 := HXr0.out.2.2
 have hkr0 := HXr0.out.1
 clear hb
 have HNO : Hid (cutPre l ws z p = false → cutOkM l ws z p = false ∧ cutAtM l ws z p = []) := fun h => cutPre_no h
 rcases h1 : diskOk l with _ | _
 ·have hc := Lib.hid (HNO.out (by rw [cutPre, h1]; rfl))
  clear h1
  go_wp2
  refine bodyPost_ret (v := .tuple #[.agg #[.slice none 0 0], .bool false]) (by simp [results, Try.results11, go_sem, World.cell?_setCell_same _ _ _ (HXr0.out.cell (o := 0) rfl)]) rfl ?_
  first
   | exact ⟨none, 0, by rw [hc.out.1, hc.out.2]; rfl, by rw [hc.out.2]; exact Own.nil, (by ((repeat (first | ((with_reducible refine Below.alloc ?_ ?_ _); rotate_left 1; (focus (first | omega | (simp; done) | (simp; omega)))) | (with_reducible refine Below.drew ?_) | ((with_reducible refine Below.setCell ?_ ?_ _); rotate_left 1; (focus (first | omega | (simp; done) | (simp; omega)))))); exact HB.out))⟩
   | exact ⟨none, ⟨0, by rw [hc.out.1, hc.out.2]; rfl⟩, by rw [hc.out.2]; exact Own.nil, (by ((repeat (first | ((with_reducible refine Below.alloc ?_ ?_ _); rotate_left 1; (focus (first | omega | (simp; done) | (simp; omega)))) | (with_reducible refine Below.drew ?_) | ((with_reducible refine Below.setCell ?_ ?_ _); rotate_left 1; (focus (first | omega | (simp; done) | (simp; omega)))))); exact HB.out))⟩
 ·have H1 := Lib.hid h1
  clear h1
  rcases (show 600 < m ∨ m ≤ 600 by omega) with h6 | h6
  ·have hc := Lib.hid (HNO.out (by rw [cutPre, H1.out, HM.out]; simp; omega))
   go_wp2
   refine bodyPost_ret (v := .tuple #[.agg #[.slice none 0 0], .bool false]) (by simp [results, Try.results11, go_sem, World.cell?_setCell_same _ _ _ (HXr0.out.cell (o := 0) rfl)]) rfl ?_
   first
    | exact ⟨none, 0, by rw [hc.out.1, hc.out.2]; rfl, by rw [hc.out.2]; exact Own.nil, (by ((repeat (first | ((with_reducible refine Below.alloc ?_ ?_ _); rotate_left 1; (focus (first | omega | (simp; done) | (simp; omega)))) | (with_reducible refine Below.drew ?_) | ((with_reducible refine Below.setCell ?_ ?_ _); rotate_left 1; (focus (first | omega | (simp; done) | (simp; omega)))))); exact HB.out))⟩
    | exact ⟨none, ⟨0, by rw [hc.out.1, hc.out.2]; rfl⟩, by rw [hc.out.2]; exact Own.nil, (by ((repeat (first | ((with_reducible refine Below.alloc ?_ ?_ _); rotate_left 1; (focus (first | omega | (simp; done) | (simp; omega)))) | (with_reducible refine Below.drew ?_) | ((with_reducible refine Below.setCell ?_ ?_ _); rotate_left 1; (focus (first | omega | (simp; done) | (simp; omega)))))); exact HB.out))⟩
  ·go_wp2_with fail
   refine (inRange_c z 0 m _).mono ?_
   rintro e w3_ ⟨rfl, rfl⟩
   rcases h2 : inR z 0 m with _ | _
   ·have hc := Lib.hid (HNO.out (by rw [cutPre, HM.out, h2]; simp))
    clear h2
    go_wp2
    refine bodyPost_ret (v := .tuple #[.agg #[.slice none 0 0], .bool false]) (by simp [results, Try.results11, go_sem, World.cell?_setCell_same _ _ _ (HXr0.out.cell (o := 0) rfl)]) rfl ?_
    first
     | exact ⟨none, 0, by rw [hc.out.1, hc.out.2]; rfl, by rw [hc.out.2]; exact Own.nil, (by ((repeat (first | ((with_reducible refine Below.alloc ?_ ?_ _); rotate_left 1; (focus (first | omega | (simp; done) | (simp; omega)))) | (with_reducible refine Below.drew ?_) | ((with_reducible refine Below.setCell ?_ ?_ _); rotate_left 1; (focus (first | omega | (simp; done) | (simp; omega)))))); exact HB.out))⟩
     | exact ⟨none, ⟨0, by rw [hc.out.1, hc.out.2]; rfl⟩, by rw [hc.out.2]; exact Own.nil, (by ((repeat (first | ((with_reducible refine Below.alloc ?_ ?_ _); rotate_left 1; (focus (first | omega | (simp; done) | (simp; omega)))) | (with_reducible refine Below.drew ?_) | ((with_reducible refine Below.setCell ?_ ?_ _); rotate_left 1; (focus (first | omega | (simp; done) | (simp; omega)))))); exact HB.out))⟩
   ·have H2 := Lib.hid h2
    obtain ⟨q1, q2⟩ := inR_true.1 h2
    obtain ⟨k, rfl⟩ : ∃ k : Nat, z = k := ⟨z.toNat, by omega⟩
    have HFT : Hid (∀ y ∈ ws.take k, y.fits) := fun y hy => HF.out y (List.mem_of_mem_take hy)
    have HLT : Hid ((ws.take k).length = k) := by rw [Hid, List.length_take, HM.out]; omega
    have HPM := Lib.hid (putAllM_yes H1.out (show (ws.take k).length ≤ 600 by rw [HLT.out]; omega))
    have hkg : k ≤ g := by omega
    clear h2
    rcases (show k < m ∨ k = m by omega) with hlt | hkm
    ·obtain ⟨b, off, x, hBe, _, _, hb, hks, hcell⟩ := HR0.out.flat (f := Wri.cells) (m := 3) (fun _ => rfl) (by omega) (k := k) (by rw [HM.out]; exact hlt)
     have HC : Hid (∀ W, Below w.heap.size w W → W.cell? ⟨b, off + k * 3, none⟩ = some (.int .i64 x.file) ∧ W.cell? ⟨b, off + k * 3 + 1, none⟩ = some (.int .i64 x.pos) ∧ W.cell? ⟨b, off + k * 3 + 2, none⟩ = some (.string x.text)) :=
      fun W hW => ⟨(hW.cell (p := ⟨b, _, none⟩) hb).trans (hcell 0 _ rfl), (hW.cell (p := ⟨b, _, none⟩) hb).trans (hcell 1 _ rfl), (hW.cell (p := ⟨b, _, none⟩) hb).trans (hcell 2 _ rfl)⟩
     obtain ⟨hc0, hc1, hc2⟩ := HC.out _ HB.out
     have HX := Lib.hid (HF.out x (List.mem_of_getElem? hks))
     have hxt : x.text.size ≤ 9223372036854775807 := by have := HX.out.2.2; unfold maxLen at this; exact this
     have hI1 : (0 : Int) ≤ (k : Int) := by omega
     have hI2 : (k : Int) < (m : Int) := by omega
     have HK := Lib.hid hks
     have hbz : b < w2.heap.size := by omega
     clear hcell hks hb
     subst hBe
     go_wp2_with fail
     refine calls_named (fun w4 hw => ?_)
     have hz4 : w2.heap.size + 1 ≤ w4.heap.size := by rw [hw]; first | omega | (simp [World.setCell]; done) | (simp [World.setCell]; omega)
     have hzz4 : w.heap.size ≤ w4.heap.size := by omega
     have hbn : Below w2.heap.size w2 w4 := by rw [hw]; exact (by ((repeat (first | ((with_reducible refine Below.alloc ?_ ?_ _); rotate_left 1; (focus (first | omega | (simp; done) | (simp; omega)))) | (with_reducible refine Below.drew ?_) | ((with_reducible refine Below.setCell ?_ ?_ _); rotate_left 1; (focus (first | omega | (simp; done) | (simp; omega)))))); exact Below.refl _ _))
     replace HB := Lib.hid (below_then HB.out hbn HB.out.size)
     replace HOA := Lib.hid (HOA.out.below hbn)
     replace HXd := Lib.hid (HXd.out.below hbn)
     clear hxd hfd hkd
     have hxd := HXd.out.2.1
     have hfd := HXd.out.2.2
     have hkd := HXd.out.1
     replace HXr0 := Lib.hid (HXr0.out.below hbn)
     clear hxr0 hfr0 hkr0
     have hxr0 := HXr0.out.2.1
     have hfr0 := HXr0.out.2.2
     have hkr0 := HXr0.out.1
     clear hbn
     have HXnx : Hid (NewBox w4 (w2.heap.size) [.int .i64 x.file, .int .i64 x.pos, .string x.text]) := by rw [Hid, hw]; exact ⟨by first | omega | (simp [World.setCell]; done) | (simp [World.setCell]; omega), fun o => by rcases o with _ | _ | _ | o <;> go_simp, fun o => by go_simp⟩
     have hxnx := HXnx.out.2.1
     have hfnx := HXnx.out.2.2
     have hknx := HXnx.out.1
     clear hw
     refine (inRange_c p 0 (x.text.size : Nat) _).mono ?_
     rintro e w5_ ⟨rfl, rfl⟩
     rcases h3 : inR p 0 (x.text.size : Nat) with _ | _
     ·have hc := Lib.hid (HNO.out (by rw [cutPre, roomOf, Int.toNat_natCast, HK.out]; simp only; rw [h3]; simp))
      clear h3
      go_wp2
      refine bodyPost_ret (v := .tuple #[.agg #[.slice none 0 0], .bool false]) (by simp [results, Try.results11, go_sem, World.cell?_setCell_same _ _ _ (HXr0.out.cell (o := 0) rfl)]) rfl ?_
      first
       | exact ⟨none, 0, by rw [hc.out.1, hc.out.2]; rfl, by rw [hc.out.2]; exact Own.nil, (by ((repeat (first | ((with_reducible refine Below.alloc ?_ ?_ _); rotate_left 1; (focus (first | omega | (simp; done) | (simp; omega)))) | (with_reducible refine Below.drew ?_) | ((with_reducible refine Below.setCell ?_ ?_ _); rotate_left 1; (focus (first | omega | (simp; done) | (simp; omega)))))); exact HB.out))⟩
       | exact ⟨none, ⟨0, by rw [hc.out.1, hc.out.2]; rfl⟩, by rw [hc.out.2]; exact Own.nil, (by ((repeat (first | ((with_reducible refine Below.alloc ?_ ?_ _); rotate_left 1; (focus (first | omega | (simp; done) | (simp; omega)))) | (with_reducible refine Below.drew ?_) | ((with_reducible refine Below.setCell ?_ ?_ _); rotate_left 1; (focus (first | omega | (simp; done) | (simp; omega)))))); exact HB.out))⟩
     ·have H3 := Lib.hid h3
      obtain ⟨q3, q4⟩ := inR_true.1 h3
      obtain ⟨ps, rfl⟩ : ∃ ps : Nat, p = ps := ⟨p.toNat, by omega⟩
      have HCP : Hid (cutPre l ws k ps = true) := by rw [Hid, cutPre, H1.out, HM.out, H2.out, roomOf, Int.toNat_natCast, HK.out]; simp only; rw [H3.out]; simp; omega
      clear h3 hc0 hc1 hc2
      go_wp2_with fail
      refine wp_named (fun w6 hw => ?_)
      have hz6 : w4.heap.size + 0 ≤ w6.heap.size := by rw [hw]; first | omega | (simp [World.setCell]; done) | (simp [World.setCell]; omega)
      have hzz6 : w.heap.size ≤ w6.heap.size := by omega
      have hbn : Below w4.heap.size w4 w6 := by rw [hw]; exact (by ((repeat (first | ((with_reducible refine Below.alloc ?_ ?_ _); rotate_left 1; (focus (first | omega | (simp; done) | (simp; omega)))) | (with_reducible refine Below.drew ?_) | ((with_reducible refine Below.setCell ?_ ?_ _); rotate_left 1; (focus (first | omega | (simp; done) | (simp; omega)))))); exact Below.refl _ _))
      replace HB := Lib.hid (below_then HB.out hbn HB.out.size)
      replace HOA := Lib.hid (HOA.out.below hbn)
      replace HXd := Lib.hid (HXd.out.below hbn)
      clear hxd hfd hkd
      have hxd := HXd.out.2.1
      have hfd := HXd.out.2.2
      have hkd := HXd.out.1
      replace HXr0 := Lib.hid (HXr0.out.below hbn)
      clear hxr0 hfr0 hkr0
      have hxr0 := HXr0.out.2.1
      have hfr0 := HXr0.out.2.2
      have hkr0 := HXr0.out.1
      replace HXnx := Lib.hid (HXnx.out.below hbn)
      clear hxnx hfnx hknx
      have hxnx := HXnx.out.2.1
      have hfnx := HXnx.out.2.2
      have hknx := HXnx.out.1
      clear hbn
      clear hw
      obtain ⟨F, HF⟩ : ∃ F : Facts, Hid (F = fun iq xq tqs dsq uq => match iq with
       | 0 => xq.v = .agg #[.slice A n c]
       | 1 => xq.v = .slice (some ⟨b, off, none⟩) m g
       | 2 => xq.v = .int .i64 (k : Int)
       | 3 => xq.v = .slice (some ⟨b, off, none⟩) k g
       | 4 => ∃ (A4 : Option Addr) (c4 : Nat), xq.v = .tuple #[.agg #[.slice A4 (putAllM l (ws.take k)).length c4], .int .i64 (putAllK l (ws.take k))] ∧ (Own uq xq.s xq.e A4 (strs (putAllM l (ws.take k))))
       | 5 => (match tqs, dsq with | [], [yq0] => ∃ (A4 : Option Addr) (c4 : Nat), yq0.v = .tuple #[.agg #[.slice A4 (putAllM l (ws.take k)).length c4], .int .i64 (putAllK l (ws.take k))] ∧ xq.v = .tuple #[.agg #[.slice A4 (putAllM l (ws.take k)).length c4], .int .i64 (putAllK l (ws.take k))] | _, _ => False)
       | 6 => (match tqs, dsq with | [], [yq0] => ∃ (A4 : Option Addr) (c4 : Nat), yq0.v = .tuple #[.agg #[.slice A4 (putAllM l (ws.take k)).length c4], .int .i64 (putAllK l (ws.take k))] ∧ xq.v = .agg #[.slice A4 (putAllM l (ws.take k)).length c4] | _, _ => False)
       | 7 => (match tqs, dsq with | [], [yq0] => ∃ (A4 : Option Addr) (c4 : Nat), yq0.v = .tuple #[.agg #[.slice A4 (putAllM l (ws.take k)).length c4], .int .i64 (putAllK l (ws.take k))] ∧ xq.v = .int .i64 (putAllK l (ws.take k)) | _, _ => False)
       | 8 => xq.v = .pointer (some ⟨xq.s, 0, none⟩) ∧ xq.s < xq.e ∧ NewBox uq xq.s [.slice none 0 0]
       | 9 => (match tqs, dsq with | [tq0], [yq0] => tq0.v = .pointer (some ⟨tq0.s, 0, none⟩) ∧ tq0.s < tq0.e ∧ ∃ (A4 : Option Addr) (c4 : Nat), yq0.v = .tuple #[.agg #[.slice A4 (putAllM l (ws.take k)).length c4], .int .i64 (putAllK l (ws.take k))] ∧ NewBox uq tq0.s [.slice A4 (putAllM l (ws.take k)).length c4] | _, _ => False)
       | 10 => (match tqs, dsq with | [], [yq0] => ∃ (A4 : Option Addr) (c4 : Nat), yq0.v = .tuple #[.agg #[.slice A4 (putAllM l (ws.take k)).length c4], .int .i64 (putAllK l (ws.take k))] ∧ xq.v = .int .i64 (putAllK l (ws.take k)) | _, _ => False)
       | _ => False) := ⟨_, rfl⟩
      refine wp_region_facts [[], [], [], [], [], [4], [4], [4], [], [4], [4]] [[], [], [], [], [], [], [], [], [], [8], []] [some 46, some 47, some 48, some 49, some 50, some 45, some 51, some 52, some 11, none, some 12] none 0 0 (.inl rfl) F (by kernel_rfl) (by kernel_rfl) (by kernel_rfl) ?_ ⟨?_, ?_, ?_, ?_, ?_, ?_, ?_, ?_, ?_, ?_, ?_, trivial⟩ ?_
      ·rw [HF.out]; intro iq xq tqs dsq uq u' hi hf hs hW hx hbk
       have kx : ∀ b, xq.s ≤ b → b < xq.e → u'.heap[b]? = uq.heap[b]? := fun b h1 h2 => hbk b (.inr (.inl ⟨h1, h2⟩))
       have kt : ∀ t ∈ tqs, ∀ b, t.s ≤ b → b < t.e → u'.heap[b]? = uq.heap[b]? := fun t ht b h1 h2 => hbk b (.inr (.inr ⟨t, ht, h1, h2⟩))
       match iq with
       | 0 => exact hf
       | 1 => exact hf
       | 2 => exact hf
       | 3 => exact hf
       | 4 => obtain ⟨A4, c4, hv, p0⟩ := hf; exact ⟨A4, c4, hv, p0.keep hs kx⟩
       | 5 => exact hf
       | 6 => exact hf
       | 7 => exact hf
       | 8 => exact ⟨hf.1, hf.2.1, hf.2.2.keep hs (kx _ (Nat.le_refl _) hf.2.1)⟩
       | 9 => match tqs, dsq, hf with | [tq0], [yq0], hf => obtain ⟨h1, h2, A4, c4, hvr4, hb⟩ := hf; exact ⟨h1, h2, A4, c4, hvr4, hb.keep hs (kt tq0 List.mem_cons_self _ (Nat.le_refl _) h2)⟩
       | 10 => exact hf
      ·intro gh ρ u hc hf1 hg1 hd h0 hb he ha hF
       replace hb : Below w6.heap.size w6 u := hb.drew.below (by decide +kernel)
       have hbz : w6.heap.size ≤ u.heap.size := hb.size
       have r4 : ρ (.tmp 4) = .pointer (some ⟨w.heap.size, 0, none⟩) := (h0 4 (by decide +kernel)).trans rfl
       have q_d := (HXd.out.below hb).2.1
       have k_d : w.heap.size < u.heap.size := by have := HXd.out.1; omega
       clear  hd h0 he ha hF
       go_simp
       rw [HF.out]
       exact ⟨OnlyL.refl _ _, rfl⟩
      ·intro gh ρ u hc hf1 hg1 hd h0 hb he ha hF
       have r1 : ρ (.tmp 1) = .slice (some ⟨b, off, none⟩) m g := (h0 1 (by decide +kernel)).trans rfl
       clear  hd h0 he ha hF
       go_simp
       rw [HF.out]
       exact ⟨OnlyL.refl _ _, rfl⟩
      ·intro gh ρ u hc hf1 hg1 hd h0 hb he ha hF
       have r2 : ρ (.tmp 2) = .int .i64 (k : Int) := (h0 2 (by decide +kernel)).trans rfl
       clear  hd h0 he ha hF
       go_simp
       rw [HF.out]
       exact ⟨OnlyL.refl _ _, rfl⟩
      ·intro gh ρ u hc hf1 hg1 hd h0 hb he ha hF
       have r47 : ρ (.tmp 47) = .slice (some ⟨b, off, none⟩) m g := by have h := hF 1 (by decide +kernel) (by decide +kernel); rw [HF.out] at h; exact (hd 1 (by decide +kernel) 47 (by kernel_rfl)).trans h
       have r48 : ρ (.tmp 48) = .int .i64 (k : Int) := by have h := hF 2 (by decide +kernel) (by decide +kernel); rw [HF.out] at h; exact (hd 2 (by decide +kernel) 48 (by kernel_rfl)).trans h
       clear  hd h0 he ha hF
       go_simp
       rw [HF.out]
       exact ⟨OnlyL.refl _ _, rfl⟩
      ·intro gh ρ u hc hf1 hg1 hd h0 hb he ha hF
       replace hb : Below w6.heap.size w6 u := hb.drew.below (by decide +kernel)
       have hbz : w6.heap.size ≤ u.heap.size := hb.size
       have r46 : ρ (.tmp 46) = .agg #[.slice A n c] := by have h := hF 0 (by decide +kernel) (by decide +kernel); rw [HF.out] at h; exact (hd 0 (by decide +kernel) 46 (by kernel_rfl)).trans h
       have r49 : ρ (.tmp 49) = .slice (some ⟨b, off, none⟩) k g := by have h := hF 3 (by decide +kernel) (by decide +kernel); rw [HF.out] at h; exact (hd 3 (by decide +kernel) 49 (by kernel_rfl)).trans h
       clear  hd h0 he ha hF
       go_simp
       have q_d := (HXd.out.below hb)
       refine (implPutAll_c A c _ _ n l (some ⟨b, off, none⟩) g _ _ k (ws.take k) _ (HOA.out.below hb) HN.out hl (Rd.front (by rw [← wris_take]; exact HR0.out.below (below_then HB.out hb HB.out.size))) HLT.out (by omega) HFT.out).mono ?_
       rintro e u1 ⟨A4, c4, rfl, ho, hb1⟩
       rw [HF.out]
       exact ⟨_, rfl, OnlyL.of_below hb1, A4, c4, rfl, ho⟩
      ·intro gh ρ u hc hf1 hg1 hd h0 hb he ha hF
       have f4 : ∃ (A4 : Option Addr) (c4 : Nat), (gh 4).v = .tuple #[.agg #[.slice A4 (putAllM l (ws.take k)).length c4], .int .i64 (putAllK l (ws.take k))] ∧ (Own u (gh 4).s (gh 4).e A4 (strs (putAllM l (ws.take k)))) := by have h := hF 4 (by decide +kernel) (by decide +kernel); rw [HF.out] at h; exact h
       obtain ⟨A4, c4, hv4, g4_0⟩ := f4
       have hrt4 := hv4
       have r50 : ρ (.tmp 50) = .tuple #[.agg #[.slice A4 (putAllM l (ws.take k)).length c4], .int .i64 (putAllK l (ws.take k))] := (hd 4 (by decide +kernel) 50 (by kernel_rfl)).trans hv4
       have HRT4 := Lib.hid hrt4
       clear hv4 hrt4 hd h0 he ha hF
       go_simp
       rw [HF.out]
       exact ⟨OnlyL.refl _ _, A4, c4, HRT4.out, rfl⟩
      ·intro gh ρ u hc hf1 hg1 hd h0 hb he ha hF
       have f5 : ∃ (A4 : Option Addr) (c4 : Nat), (gh 4).v = .tuple #[.agg #[.slice A4 (putAllM l (ws.take k)).length c4], .int .i64 (putAllK l (ws.take k))] ∧ (gh 5).v = .tuple #[.agg #[.slice A4 (putAllM l (ws.take k)).length c4], .int .i64 (putAllK l (ws.take k))] := by have h := hF 5 (by decide +kernel) (by decide +kernel); rw [HF.out] at h; exact h
       obtain ⟨A4, c4, hrt4, hv5⟩ := f5
       have r45 : ρ (.tmp 45) = .tuple #[.agg #[.slice A4 (putAllM l (ws.take k)).length c4], .int .i64 (putAllK l (ws.take k))] := (hd 5 (by decide +kernel) 45 (by kernel_rfl)).trans hv5
       have HRT4 := Lib.hid hrt4
       clear hv5 hrt4 hd h0 he ha hF
       go_simp
       rw [HF.out]
       exact ⟨OnlyL.refl _ _, A4, c4, HRT4.out, rfl⟩
      ·intro gh ρ u hc hf1 hg1 hd h0 hb he ha hF
       have f5 : ∃ (A4 : Option Addr) (c4 : Nat), (gh 4).v = .tuple #[.agg #[.slice A4 (putAllM l (ws.take k)).length c4], .int .i64 (putAllK l (ws.take k))] ∧ (gh 5).v = .tuple #[.agg #[.slice A4 (putAllM l (ws.take k)).length c4], .int .i64 (putAllK l (ws.take k))] := by have h := hF 5 (by decide +kernel) (by decide +kernel); rw [HF.out] at h; exact h
       obtain ⟨A4, c4, hrt4, hv5⟩ := f5
       have r45 : ρ (.tmp 45) = .tuple #[.agg #[.slice A4 (putAllM l (ws.take k)).length c4], .int .i64 (putAllK l (ws.take k))] := (hd 5 (by decide +kernel) 45 (by kernel_rfl)).trans hv5
       have HRT4 := Lib.hid hrt4
       clear hv5 hrt4 hd h0 he ha hF
       go_simp
       rw [HF.out]
       exact ⟨OnlyL.refl _ _, A4, c4, HRT4.out, rfl⟩
      ·intro gh ρ u hc hf1 hg1 hd h0 hb he ha hF
       replace hb : Below w6.heap.size w6 u := hb.drew.below (by decide +kernel)
       have hbz : w6.heap.size ≤ u.heap.size := hb.size
       clear  hd h0 he ha hF
       go_simp
       rw [HF.out]
       exact ⟨OnlyL.of_below ((Below.refl _ _).alloc (Nat.le_refl _) _), rfl, by simp, NewBox.new _ _ _⟩
      ·intro gh ρ u hc hf1 hg1 hd h0 hb he ha hF
       replace hb : Below w6.heap.size w6 u := hb.drew.below (by decide +kernel)
       have hbz : w6.heap.size ≤ u.heap.size := hb.size
       have f8 : (gh 8).v = .pointer (some ⟨(gh 8).s, 0, none⟩) ∧ (gh 8).s < (gh 8).e ∧ NewBox u (gh 8).s [.slice none 0 0] := by have h := hF 8 (by decide +kernel) (by decide +kernel); rw [HF.out] at h; exact h
       obtain ⟨hv8, hpl, hpz, hpc, hpf⟩ := f8
       have r11 : ρ (.tmp 11) = .pointer (some ⟨(gh 8).s, 0, none⟩) := (hd 8 (by decide +kernel) 11 (by kernel_rfl)).trans hv8
       have HP := Lib.hid hv8
       have f6 : ∃ (A4 : Option Addr) (c4 : Nat), (gh 4).v = .tuple #[.agg #[.slice A4 (putAllM l (ws.take k)).length c4], .int .i64 (putAllK l (ws.take k))] ∧ (gh 6).v = .agg #[.slice A4 (putAllM l (ws.take k)).length c4] := by have h := hF 6 (by decide +kernel) (by decide +kernel); rw [HF.out] at h; exact h
       obtain ⟨A4, c4, hrt4, hv6⟩ := f6
       have r51 : ρ (.tmp 51) = .agg #[.slice A4 (putAllM l (ws.take k)).length c4] := (hd 6 (by decide +kernel) 51 (by kernel_rfl)).trans hv6
       have HRT4 := Lib.hid hrt4
       obtain ⟨_, _, _⟩ := he 8 (by decide +kernel)
       clear hv8 hv6 hrt4 hd h0 he ha hF
       go_simp
       rw [HF.out]
       refine ⟨?_, HP.out, hpl, A4, c4, HRT4.out, ?_⟩
       ·refine OnlyL.of_only (t := gh 8) ?_; refine Only.setCell ?_ (by exact Nat.le_refl _) (by exact hpl) _; exact Only.refl _ _ _
       ·show NewBox _ (gh 8).s _
        exact ⟨by simpa [World.setCell] using hpz, fun o => by rcases o with _ | o <;> go_simp, fun o => by go_simp⟩
      ·intro gh ρ u hc hf1 hg1 hd h0 hb he ha hF
       have f7 : ∃ (A4 : Option Addr) (c4 : Nat), (gh 4).v = .tuple #[.agg #[.slice A4 (putAllM l (ws.take k)).length c4], .int .i64 (putAllK l (ws.take k))] ∧ (gh 7).v = .int .i64 (putAllK l (ws.take k)) := by have h := hF 7 (by decide +kernel) (by decide +kernel); rw [HF.out] at h; exact h
       obtain ⟨A4, c4, hrt4, hv7⟩ := f7
       have r52 : ρ (.tmp 52) = .int .i64 (putAllK l (ws.take k)) := (hd 7 (by decide +kernel) 52 (by kernel_rfl)).trans hv7
       have HRT4 := Lib.hid hrt4
       clear hv7 hrt4 hd h0 he ha hF
       go_simp
       rw [HF.out]
       exact ⟨OnlyL.refl _ _, A4, c4, HRT4.out, rfl⟩
      intro gh w7 hB hE hA hF
      replace hB : Below w6.heap.size w6 w7 := hB.below rfl
      have f0 : (gh 0).v = .agg #[.slice A n c] := by have h := hF 0 (by decide +kernel) (by decide +kernel); rw [HF.out] at h; exact h
      have f1 : (gh 1).v = .slice (some ⟨b, off, none⟩) m g := by have h := hF 1 (by decide +kernel) (by decide +kernel); rw [HF.out] at h; exact h
      have f2 : (gh 2).v = .int .i64 (k : Int) := by have h := hF 2 (by decide +kernel) (by decide +kernel); rw [HF.out] at h; exact h
      have f3 : (gh 3).v = .slice (some ⟨b, off, none⟩) k g := by have h := hF 3 (by decide +kernel) (by decide +kernel); rw [HF.out] at h; exact h
      have f4 : ∃ (A4 : Option Addr) (c4 : Nat), (gh 4).v = .tuple #[.agg #[.slice A4 (putAllM l (ws.take k)).length c4], .int .i64 (putAllK l (ws.take k))] ∧ (Own w7 (gh 4).s (gh 4).e A4 (strs (putAllM l (ws.take k)))) := by have h := hF 4 (by decide +kernel) (by decide +kernel); rw [HF.out] at h; exact h
      have f5 : ∃ (A4 : Option Addr) (c4 : Nat), (gh 4).v = .tuple #[.agg #[.slice A4 (putAllM l (ws.take k)).length c4], .int .i64 (putAllK l (ws.take k))] ∧ (gh 5).v = .tuple #[.agg #[.slice A4 (putAllM l (ws.take k)).length c4], .int .i64 (putAllK l (ws.take k))] := by have h := hF 5 (by decide +kernel) (by decide +kernel); rw [HF.out] at h; exact h
      have f6 : ∃ (A4 : Option Addr) (c4 : Nat), (gh 4).v = .tuple #[.agg #[.slice A4 (putAllM l (ws.take k)).length c4], .int .i64 (putAllK l (ws.take k))] ∧ (gh 6).v = .agg #[.slice A4 (putAllM l (ws.take k)).length c4] := by have h := hF 6 (by decide +kernel) (by decide +kernel); rw [HF.out] at h; exact h
      have f7 : ∃ (A4 : Option Addr) (c4 : Nat), (gh 4).v = .tuple #[.agg #[.slice A4 (putAllM l (ws.take k)).length c4], .int .i64 (putAllK l (ws.take k))] ∧ (gh 7).v = .int .i64 (putAllK l (ws.take k)) := by have h := hF 7 (by decide +kernel) (by decide +kernel); rw [HF.out] at h; exact h
      have f9 : (gh 8).v = .pointer (some ⟨(gh 8).s, 0, none⟩) ∧ (gh 8).s < (gh 8).e ∧ ∃ (A4 : Option Addr) (c4 : Nat), (gh 4).v = .tuple #[.agg #[.slice A4 (putAllM l (ws.take k)).length c4], .int .i64 (putAllK l (ws.take k))] ∧ NewBox w7 (gh 8).s [.slice A4 (putAllM l (ws.take k)).length c4] := by have h := hF 9 (by decide +kernel) (by decide +kernel); rw [HF.out] at h; exact h
      have f10 : ∃ (A4 : Option Addr) (c4 : Nat), (gh 4).v = .tuple #[.agg #[.slice A4 (putAllM l (ws.take k)).length c4], .int .i64 (putAllK l (ws.take k))] ∧ (gh 10).v = .int .i64 (putAllK l (ws.take k)) := by have h := hF 10 (by decide +kernel) (by decide +kernel); rw [HF.out] at h; exact h
      obtain ⟨A4, c4, hv4, ho4⟩ := f4
      have hv0 := f0
      have hv1 := f1
      have hv2 := f2
      have hv3 := f3
      obtain ⟨A4_5, c4_5, hu4, hv5⟩ := f5
      replace hu4 := hv4.symm.trans hu4
      simp at hu4
      try simp only [and_assoc] at hu4
      obtain ⟨rfl, rfl⟩ := hu4
      obtain ⟨A4_6, c4_6, hu4, hv6⟩ := f6
      replace hu4 := hv4.symm.trans hu4
      simp at hu4
      try simp only [and_assoc] at hu4
      obtain ⟨rfl, rfl⟩ := hu4
      obtain ⟨A4_7, c4_7, hu4, hv7⟩ := f7
      replace hu4 := hv4.symm.trans hu4
      simp at hu4
      try simp only [and_assoc] at hu4
      obtain ⟨rfl, rfl⟩ := hu4
      obtain ⟨hv8, hl8, f9⟩ := f9
      obtain ⟨A4_9, c4_9, hu4, hx9⟩ := f9
      replace hu4 := hv4.symm.trans hu4
      simp at hu4
      try simp only [and_assoc] at hu4
      obtain ⟨rfl, rfl⟩ := hu4
      obtain ⟨A4_10, c4_10, hu4, hv10⟩ := f10
      replace hu4 := hv4.symm.trans hu4
      simp at hu4
      try simp only [and_assoc] at hu4
      obtain ⟨rfl, rfl⟩ := hu4
      obtain ⟨hs4, hse4, he4⟩ := hE 4 (by decide +kernel)
      obtain ⟨hs8, hse8, he8⟩ := hE 8 (by decide +kernel)
      have hdj7_4_8 := hA 4 (by decide +kernel) 8 (by decide +kernel) (by decide)
      change w6.heap.size ≤ _ at hs4 hs8
      clear hE hA hF
      simp only [putDs, Nat.reduceAdd, hv0, hv1, hv2, hv3, hv4, hv5, hv6, hv7, hv8, hv10]
      clear hv0 hv1 hv2 hv3 hv4 hv5 hv6 hv7 hv8 hv10
      generalize (gh 4).s = s7_4 at *
      generalize (gh 4).e = e7_4 at *
      generalize (gh 8).s = s7_8 at *
      generalize (gh 8).e = e7_8 at *
      clear HF
      have hb := hB
      clear hB
      have hzw7 : w6.heap.size ≤ w7.heap.size := hb.size
      have hzzw7 : w.heap.size ≤ w7.heap.size := by omega
      replace HB := Lib.hid (below_then HB.out hb HB.out.size)
      replace HOA := Lib.hid (HOA.out.below hb)
      replace HXd := Lib.hid (HXd.out.below hb)
      clear hxd hfd hkd
      have hxd := HXd.out.2.1
      have hfd := HXd.out.2.2
      have hkd := HXd.out.1
      replace HXr0 := Lib.hid (HXr0.out.below hb)
      clear hxr0 hfr0 hkr0
      have hxr0 := HXr0.out.2.1
      have hfr0 := HXr0.out.2.2
      have hkr0 := HXr0.out.1
      replace HXnx := Lib.hid (HXnx.out.below hb)
      clear hxnx hfnx hknx
      have hxnx := HXnx.out.2.1
      have hfnx := HXnx.out.2.2
      have hknx := HXnx.out.1
      clear hb
      have HXo0 : Hid (NewBox w7 (s7_8) [.slice A4 (putAllM l (ws.take k)).length c4]) := hx9
      have hxo0 := HXo0.out.2.1
      have hfo0 := HXo0.out.2.2
      have hko0 := HXo0.out.1
      clear hx9
      have HON4 : Hid (Own w7 (s7_4) (e7_4) (A4) (strs (putAllM l (ws.take k)))) := Lib.hid ho4
      clear ho4
      rw [HPM.out.2]
      rcases (show putAllN l (ws.take k) = k ∨ putAllN l (ws.take k) ≠ k by omega) with h9 | h9
      ·have H9 := Lib.hid h9
       have hq : (((putAllN l (ws.take k) : Nat) : Int) != (k : Int)) = false := by rw [h9]; simp
       clear h9
       rcases (show ps = 0 ∨ 0 < ps by omega) with hp0 | hp0
       ·subst hp0
        have e1 : Hid (cutOkM l ws k (0 : Nat) = true) := by rw [Hid, cutOkM, HCP.out, cutDone_0, HLT.out, H9.out]; simp
        have e2 : Hid (cutAtM l ws k (0 : Nat) = putAllM l (ws.take k)) := by rw [Hid, cutAtM, e1.out, if_pos rfl, cutDone_0, HPM.out.1]
        go_wp2
        refine bodyPost_ret (v := .tuple #[.agg #[.slice A4 (putAllM l (ws.take k)).length c4], .bool true]) (by simp [results, Try.results11, go_sem, World.cell?_setCell_same _ _ _ (HXr0.out.cell (o := 0) rfl)]) rfl ?_
        exact ⟨A4, c4, by rw [e1.out, e2.out], by rw [e2.out]; exact ((by (repeat (first | (with_reducible refine Own.alloc ?_ _) | (with_reducible refine Own.drew ?_) | ((with_reducible refine Own.setCell ?_ ?_ _); rotate_left 1; (focus (first | omega | (simp; done) | (simp; omega)))))); exact HON4.out) : Own _ (s7_4) (e7_4) A4 _).mono (by omega) (by first | omega | (simp [World.setCell]; done) | (simp [World.setCell]; omega)) (by first | omega | (simp [World.setCell]; done) | (simp [World.setCell]; omega)), (by ((repeat (first | ((with_reducible refine Below.alloc ?_ ?_ _); rotate_left 1; (focus (first | omega | (simp; done) | (simp; omega)))) | (with_reducible refine Below.drew ?_) | ((with_reducible refine Below.setCell ?_ ?_ _); rotate_left 1; (focus (first | omega | (simp; done) | (simp; omega)))))); exact HB.out))⟩
       ·have hpq : ((ps : Int) == 0) = false := by rw [beq_eq_false_iff_ne]; omega
        have HD := Lib.hid (cutDone_p HK.out hp0)
        have hps : ps ≤ x.text.size := by omega
        have HSN := Lib.hid (putAll_snoc (ws.take k) l (cutW x ps) (by rw [H9.out, HLT.out]))
        have HOKP := Lib.hid (putAllL_ok (ws.take k) l H1.out)
        have HPL : Hid ((putAllM l (ws.take k)).length = n) := by rw [Hid, HPM.out.1, putAllL_len, HN.out]
        go_wp2_with fail
        refine calls_named (fun w8 hw => ?_)
        have hz8 : w7.heap.size + 0 ≤ w8.heap.size := by rw [hw]; first | omega | (simp [World.setCell]; done) | (simp [World.setCell]; omega)
        have hzz8 : w.heap.size ≤ w8.heap.size := by omega
        replace HB : Hid (Below w.heap.size w w8) := by rw [Hid, hw]; exact (by ((repeat (first | ((with_reducible refine Below.alloc ?_ ?_ _); rotate_left 1; (focus (first | omega | (simp; done) | (simp; omega)))) | (with_reducible refine Below.drew ?_) | ((with_reducible refine Below.setCell ?_ ?_ _); rotate_left 1; (focus (first | omega | (simp; done) | (simp; omega)))))); exact HB.out))
        replace HOA : Hid (Rd w8 (0) (w.heap.size) (A) (strs l)) := by rw [Hid, hw]; (repeat (first | (with_reducible refine Rd.alloc ?_ _) | (with_reducible refine Rd.drew ?_) | ((with_reducible refine Rd.setCell ?_ ?_ _); rotate_left 1; (focus (first | omega | (simp; done) | (simp; omega)))))); exact HOA.out
        replace HON4 : Hid (Own w8 (s7_4) (e7_4) (A4) (strs (putAllM l (ws.take k)))) := by rw [Hid, hw]; (repeat (first | (with_reducible refine Own.alloc ?_ _) | (with_reducible refine Own.drew ?_) | ((with_reducible refine Own.setCell ?_ ?_ _); rotate_left 1; (focus (first | omega | (simp; done) | (simp; omega)))))); exact HON4.out
        replace HXd : Hid (NewBox w8 (w.heap.size) [.slice A n c]) := by rw [Hid, hw]; (repeat (first | (with_reducible refine NewBox.alloc ?_ _) | (with_reducible refine NewBox.drew ?_) | ((with_reducible refine NewBox.setCell ?_ ?_ _); rotate_left 1; (focus (first | omega | (simp; done) | (simp; omega)))))); exact HXd.out
        clear hxd hfd hkd
        have hxd := HXd.out.2.1
        have hfd := HXd.out.2.2
        have hkd := HXd.out.1
        replace HXr0 : Hid (NewBox w8 (w.heap.size + 1) [.slice none 0 0]) := by rw [Hid, hw]; (repeat (first | (with_reducible refine NewBox.alloc ?_ _) | (with_reducible refine NewBox.drew ?_) | ((with_reducible refine NewBox.setCell ?_ ?_ _); rotate_left 1; (focus (first | omega | (simp; done) | (simp; omega)))))); exact HXr0.out
        clear hxr0 hfr0 hkr0
        have hxr0 := HXr0.out.2.1
        have hfr0 := HXr0.out.2.2
        have hkr0 := HXr0.out.1
        replace HXnx : Hid (NewBox w8 (w2.heap.size) [.int .i64 x.file, .int .i64 x.pos, .string (x.text.extract 0 ps)]) := by rw [Hid, hw]; exact ⟨by first | omega | (simp [World.setCell]; omega), fun o => by rcases o with _ | _ | _ | o <;> go_simp, fun o => by go_simp⟩
        clear hxnx hfnx hknx
        have hxnx := HXnx.out.2.1
        have hfnx := HXnx.out.2.2
        have hknx := HXnx.out.1
        replace HXo0 : Hid (NewBox w8 (s7_8) [.slice A4 (putAllM l (ws.take k)).length c4]) := by rw [Hid, hw]; (repeat (first | (with_reducible refine NewBox.alloc ?_ _) | (with_reducible refine NewBox.drew ?_) | ((with_reducible refine NewBox.setCell ?_ ?_ _); rotate_left 1; (focus (first | omega | (simp; done) | (simp; omega)))))); exact HXo0.out
        clear hxo0 hfo0 hko0
        have hxo0 := HXo0.out.2.1
        have hfo0 := HXo0.out.2.2
        have hko0 := HXo0.out.1
        clear hw
        refine (implPut_c A4 c4 _ _ _ (putAllM l (ws.take k)) (cutW x ps) _ (HON4.out.rd) rfl (by rw [HPL.out]; exact hl) (cutW_fits HX.out)).mono ?_
        rintro e w9 ⟨A5, c5, rfl, ho5, hb⟩
        have hzw9 : w8.heap.size ≤ w9.heap.size := hb.size
        have hzzw9 : w.heap.size ≤ w9.heap.size := by omega
        replace HB := Lib.hid (below_then HB.out hb HB.out.size)
        replace HOA := Lib.hid (HOA.out.below hb)
        replace HON4 := Lib.hid (HON4.out.below hb)
        replace HXd := Lib.hid (HXd.out.below hb)
        clear hxd hfd hkd
        have hxd := HXd.out.2.1
        have hfd := HXd.out.2.2
        have hkd := HXd.out.1
        replace HXr0 := Lib.hid (HXr0.out.below hb)
        clear hxr0 hfr0 hkr0
        have hxr0 := HXr0.out.2.1
        have hfr0 := HXr0.out.2.2
        have hkr0 := HXr0.out.1
        replace HXnx := Lib.hid (HXnx.out.below hb)
        clear hxnx hfnx hknx
        have hxnx := HXnx.out.2.1
        have hfnx := HXnx.out.2.2
        have hknx := HXnx.out.1
        replace HXo0 := Lib.hid (HXo0.out.below hb)
        clear hxo0 hfo0 hko0
        have hxo0 := HXo0.out.2.1
        have hfo0 := HXo0.out.2.2
        have hko0 := HXo0.out.1
        clear hb
        have HON5 : Hid (Own w9 (w8.heap.size) (w9.heap.size) (A5) (strs (putM (putAllM l (ws.take k)) (cutW x ps)))) := Lib.hid ho5
        clear ho5
        have hw0 : Hid (writeOk (putAllM l (ws.take k)) (cutW x ps) = fitsD (putAllL l (ws.take k)) (cutW x ps)) := by rw [Hid, HPM.out.1, writeOk, HOKP.out, Bool.true_and]
        have e1 : Hid (cutOkM l ws k ps = writeOk (putAllM l (ws.take k)) (cutW x ps)) := by
         rw [Hid, cutOkM, HCP.out, HD.out, HSN.out.2, List.length_append, HLT.out, hw0.out, Bool.true_and]
         cases fitsD (putAllL l (ws.take k)) (cutW x ps) <;> simp
        have e2 : Hid (cutAtM l ws k ps = putM (putAllM l (ws.take k)) (cutW x ps)) := by
         rw [Hid, cutAtM, e1.out, putM, HD.out, HSN.out.1, hw0.out, HPM.out.1]
         cases fitsD (putAllL l (ws.take k)) (cutW x ps) <;> rfl
        go_wp2
        refine bodyPost_ret (v := .tuple #[.agg #[.slice A5 (putM (putAllM l (ws.take k)) (cutW x ps)).length c5], .bool (writeOk (putAllM l (ws.take k)) (cutW x ps))]) (by simp [results, Try.results11, go_sem, World.cell?_setCell_same _ _ _ (HXr0.out.cell (o := 0) rfl)]) rfl ?_
        exact ⟨A5, c5, by rw [e1.out, e2.out], by rw [e2.out]; exact ((by (repeat (first | (with_reducible refine Own.alloc ?_ _) | (with_reducible refine Own.drew ?_) | ((with_reducible refine Own.setCell ?_ ?_ _); rotate_left 1; (focus (first | omega | (simp; done) | (simp; omega)))))); exact HON5.out) : Own _ (w8.heap.size) (w9.heap.size) A5 _).mono (by omega) (by first | omega | (simp [World.setCell]; done) | (simp [World.setCell]; omega)) (by first | omega | (simp [World.setCell]; done) | (simp [World.setCell]; omega)), (by ((repeat (first | ((with_reducible refine Below.alloc ?_ ?_ _); rotate_left 1; (focus (first | omega | (simp; done) | (simp; omega)))) | (with_reducible refine Below.drew ?_) | ((with_reducible refine Below.setCell ?_ ?_ _); rotate_left 1; (focus (first | omega | (simp; done) | (simp; omega)))))); exact HB.out))⟩
      ·have hq : (((putAllN l (ws.take k) : Nat) : Int) != (k : Int)) = true := by rw [bne_iff_ne]; omega
       have e1 : Hid (cutOkM l ws k ps = false) := by
        rw [Hid, cutOkM, HCP.out, Bool.true_and, decide_eq_false_iff_not]
        have hle := putAllN_le (ws.take k) l
        rw [HLT.out] at hle
        rcases (show ps = 0 ∨ 0 < ps by omega) with h0 | h0
        ·subst h0; rw [cutDone_0, HLT.out]; exact h9
        ·rw [cutDone_p HK.out h0, putAll_stop _ _ _ (by rw [HLT.out]; exact h9), List.length_append, HLT.out]
         simp only [List.length_cons, List.length_nil]; omega
       have hc := Lib.hid (And.intro e1.out (cutAtM_no e1.out))
       clear h9
       go_wp2
       refine bodyPost_ret (v := .tuple #[.agg #[.slice none 0 0], .bool false]) (by simp [results, Try.results11, go_sem, World.cell?_setCell_same _ _ _ (HXr0.out.cell (o := 0) rfl)]) rfl ?_
       first
        | exact ⟨none, 0, by rw [hc.out.1, hc.out.2]; rfl, by rw [hc.out.2]; exact Own.nil, (by ((repeat (first | ((with_reducible refine Below.alloc ?_ ?_ _); rotate_left 1; (focus (first | omega | (simp; done) | (simp; omega)))) | (with_reducible refine Below.drew ?_) | ((with_reducible refine Below.setCell ?_ ?_ _); rotate_left 1; (focus (first | omega | (simp; done) | (simp; omega)))))); exact HB.out))⟩
        | exact ⟨none, ⟨0, by rw [hc.out.1, hc.out.2]; rfl⟩, by rw [hc.out.2]; exact Own.nil, (by ((repeat (first | ((with_reducible refine Below.alloc ?_ ?_ _); rotate_left 1; (focus (first | omega | (simp; done) | (simp; omega)))) | (with_reducible refine Below.drew ?_) | ((with_reducible refine Below.setCell ?_ ?_ _); rotate_left 1; (focus (first | omega | (simp; done) | (simp; omega)))))); exact HB.out))⟩
    ·obtain rfl : k = m := hkm
     have hrm : Hid (roomOf ws k = 0) := by
      rw [Hid, roomOf, Int.toNat_natCast, List.getElem?_eq_none (by rw [HM.out]; exact Nat.le_refl _)]
     go_wp2_with fail
     refine calls_named (fun w4 hw => ?_)
     have hz4 : w2.heap.size + 1 ≤ w4.heap.size := by rw [hw]; first | omega | (simp [World.setCell]; done) | (simp [World.setCell]; omega)
     have hzz4 : w.heap.size ≤ w4.heap.size := by omega
     have hbn : Below w2.heap.size w2 w4 := by rw [hw]; exact (by ((repeat (first | ((with_reducible refine Below.alloc ?_ ?_ _); rotate_left 1; (focus (first | omega | (simp; done) | (simp; omega)))) | (with_reducible refine Below.drew ?_) | ((with_reducible refine Below.setCell ?_ ?_ _); rotate_left 1; (focus (first | omega | (simp; done) | (simp; omega)))))); exact Below.refl _ _))
     replace HB := Lib.hid (below_then HB.out hbn HB.out.size)
     replace HOA := Lib.hid (HOA.out.below hbn)
     replace HXd := Lib.hid (HXd.out.below hbn)
     clear hxd hfd hkd
     have hxd := HXd.out.2.1
     have hfd := HXd.out.2.2
     have hkd := HXd.out.1
     replace HXr0 := Lib.hid (HXr0.out.below hbn)
     clear hxr0 hfr0 hkr0
     have hxr0 := HXr0.out.2.1
     have hfr0 := HXr0.out.2.2
     have hkr0 := HXr0.out.1
     clear hbn
     have HXnx : Hid (NewBox w4 (w2.heap.size) [.int .i64 0, .int .i64 0, .string ⟨#[]⟩]) := by rw [Hid, hw]; exact ⟨by first | omega | (simp [World.setCell]; done) | (simp [World.setCell]; omega), fun o => by rcases o with _ | _ | _ | o <;> go_simp, fun o => by go_simp⟩
     have hxnx := HXnx.out.2.1
     have hfnx := HXnx.out.2.2
     have hknx := HXnx.out.1
     clear hw
     refine (inRange_c p 0 0 _).mono ?_
     rintro e w5_ ⟨rfl, rfl⟩
     rcases h3 : inR p 0 0 with _ | _
     ·have hc := Lib.hid (HNO.out (by rw [cutPre, hrm.out, h3]; simp))
      clear h3
      go_wp2
      refine bodyPost_ret (v := .tuple #[.agg #[.slice none 0 0], .bool false]) (by simp [results, Try.results11, go_sem, World.cell?_setCell_same _ _ _ (HXr0.out.cell (o := 0) rfl)]) rfl ?_
      first
       | exact ⟨none, 0, by rw [hc.out.1, hc.out.2]; rfl, by rw [hc.out.2]; exact Own.nil, (by ((repeat (first | ((with_reducible refine Below.alloc ?_ ?_ _); rotate_left 1; (focus (first | omega | (simp; done) | (simp; omega)))) | (with_reducible refine Below.drew ?_) | ((with_reducible refine Below.setCell ?_ ?_ _); rotate_left 1; (focus (first | omega | (simp; done) | (simp; omega)))))); exact HB.out))⟩
       | exact ⟨none, ⟨0, by rw [hc.out.1, hc.out.2]; rfl⟩, by rw [hc.out.2]; exact Own.nil, (by ((repeat (first | ((with_reducible refine Below.alloc ?_ ?_ _); rotate_left 1; (focus (first | omega | (simp; done) | (simp; omega)))) | (with_reducible refine Below.drew ?_) | ((with_reducible refine Below.setCell ?_ ?_ _); rotate_left 1; (focus (first | omega | (simp; done) | (simp; omega)))))); exact HB.out))⟩
     ·have H3 := Lib.hid h3
      obtain ⟨q3, q4⟩ := inR_true.1 h3
      obtain rfl : p = ((0 : Nat) : Int) := by omega
      have HCP : Hid (cutPre l ws k (0 : Nat) = true) := by rw [Hid, cutPre, H1.out, HM.out, H2.out, hrm.out]; simp; exact ⟨by omega, H3.out⟩
      have hadd : Option.map (fun (x : Addr) => x.add 0) B = B := by cases B <;> rfl
      clear h3
      go_wp2_with fail
      refine wp_named (fun w6 hw => ?_)
      have hz6 : w4.heap.size + 0 ≤ w6.heap.size := by rw [hw]; first | omega | (simp [World.setCell]; done) | (simp [World.setCell]; omega)
      have hzz6 : w.heap.size ≤ w6.heap.size := by omega
      have hbn : Below w4.heap.size w4 w6 := by rw [hw]; exact (by ((repeat (first | ((with_reducible refine Below.alloc ?_ ?_ _); rotate_left 1; (focus (first | omega | (simp; done) | (simp; omega)))) | (with_reducible refine Below.drew ?_) | ((with_reducible refine Below.setCell ?_ ?_ _); rotate_left 1; (focus (first | omega | (simp; done) | (simp; omega)))))); exact Below.refl _ _))
      replace HB := Lib.hid (below_then HB.out hbn HB.out.size)
      replace HOA := Lib.hid (HOA.out.below hbn)
      replace HXd := Lib.hid (HXd.out.below hbn)
      clear hxd hfd hkd
      have hxd := HXd.out.2.1
      have hfd := HXd.out.2.2
      have hkd := HXd.out.1
      replace HXr0 := Lib.hid (HXr0.out.below hbn)
      clear hxr0 hfr0 hkr0
      have hxr0 := HXr0.out.2.1
      have hfr0 := HXr0.out.2.2
      have hkr0 := HXr0.out.1
      replace HXnx := Lib.hid (HXnx.out.below hbn)
      clear hxnx hfnx hknx
      have hxnx := HXnx.out.2.1
      have hfnx := HXnx.out.2.2
      have hknx := HXnx.out.1
      clear hbn
      clear hw
      obtain ⟨F, HF⟩ : ∃ F : Facts, Hid (F = fun iq xq tqs dsq uq => match iq with
       | 0 => xq.v = .agg #[.slice A n c]
       | 1 => xq.v = .slice B k g
       | 2 => xq.v = .int .i64 (k : Int)
       | 3 => xq.v = .slice B k g
       | 4 => ∃ (A4 : Option Addr) (c4 : Nat), xq.v = .tuple #[.agg #[.slice A4 (putAllM l (ws.take k)).length c4], .int .i64 (putAllK l (ws.take k))] ∧ (Own uq xq.s xq.e A4 (strs (putAllM l (ws.take k))))
       | 5 => (match tqs, dsq with | [], [yq0] => ∃ (A4 : Option Addr) (c4 : Nat), yq0.v = .tuple #[.agg #[.slice A4 (putAllM l (ws.take k)).length c4], .int .i64 (putAllK l (ws.take k))] ∧ xq.v = .tuple #[.agg #[.slice A4 (putAllM l (ws.take k)).length c4], .int .i64 (putAllK l (ws.take k))] | _, _ => False)
       | 6 => (match tqs, dsq with | [], [yq0] => ∃ (A4 : Option Addr) (c4 : Nat), yq0.v = .tuple #[.agg #[.slice A4 (putAllM l (ws.take k)).length c4], .int .i64 (putAllK l (ws.take k))] ∧ xq.v = .agg #[.slice A4 (putAllM l (ws.take k)).length c4] | _, _ => False)
       | 7 => (match tqs, dsq with | [], [yq0] => ∃ (A4 : Option Addr) (c4 : Nat), yq0.v = .tuple #[.agg #[.slice A4 (putAllM l (ws.take k)).length c4], .int .i64 (putAllK l (ws.take k))] ∧ xq.v = .int .i64 (putAllK l (ws.take k)) | _, _ => False)
       | 8 => xq.v = .pointer (some ⟨xq.s, 0, none⟩) ∧ xq.s < xq.e ∧ NewBox uq xq.s [.slice none 0 0]
       | 9 => (match tqs, dsq with | [tq0], [yq0] => tq0.v = .pointer (some ⟨tq0.s, 0, none⟩) ∧ tq0.s < tq0.e ∧ ∃ (A4 : Option Addr) (c4 : Nat), yq0.v = .tuple #[.agg #[.slice A4 (putAllM l (ws.take k)).length c4], .int .i64 (putAllK l (ws.take k))] ∧ NewBox uq tq0.s [.slice A4 (putAllM l (ws.take k)).length c4] | _, _ => False)
       | 10 => (match tqs, dsq with | [], [yq0] => ∃ (A4 : Option Addr) (c4 : Nat), yq0.v = .tuple #[.agg #[.slice A4 (putAllM l (ws.take k)).length c4], .int .i64 (putAllK l (ws.take k))] ∧ xq.v = .int .i64 (putAllK l (ws.take k)) | _, _ => False)
       | _ => False) := ⟨_, rfl⟩
      refine wp_region_facts [[], [], [], [], [], [4], [4], [4], [], [4], [4]] [[], [], [], [], [], [], [], [], [], [8], []] [some 46, some 47, some 48, some 49, some 50, some 45, some 51, some 52, some 11, none, some 12] none 0 0 (.inl rfl) F (by kernel_rfl) (by kernel_rfl) (by kernel_rfl) ?_ ⟨?_, ?_, ?_, ?_, ?_, ?_, ?_, ?_, ?_, ?_, ?_, trivial⟩ ?_
      ·rw [HF.out]; intro iq xq tqs dsq uq u' hi hf hs hW hx hbk
       have kx : ∀ b, xq.s ≤ b → b < xq.e → u'.heap[b]? = uq.heap[b]? := fun b h1 h2 => hbk b (.inr (.inl ⟨h1, h2⟩))
       have kt : ∀ t ∈ tqs, ∀ b, t.s ≤ b → b < t.e → u'.heap[b]? = uq.heap[b]? := fun t ht b h1 h2 => hbk b (.inr (.inr ⟨t, ht, h1, h2⟩))
       match iq with
       | 0 => exact hf
       | 1 => exact hf
       | 2 => exact hf
       | 3 => exact hf
       | 4 => obtain ⟨A4, c4, hv, p0⟩ := hf; exact ⟨A4, c4, hv, p0.keep hs kx⟩
       | 5 => exact hf
       | 6 => exact hf
       | 7 => exact hf
       | 8 => exact ⟨hf.1, hf.2.1, hf.2.2.keep hs (kx _ (Nat.le_refl _) hf.2.1)⟩
       | 9 => match tqs, dsq, hf with | [tq0], [yq0], hf => obtain ⟨h1, h2, A4, c4, hvr4, hb⟩ := hf; exact ⟨h1, h2, A4, c4, hvr4, hb.keep hs (kt tq0 List.mem_cons_self _ (Nat.le_refl _) h2)⟩
       | 10 => exact hf
      ·intro gh ρ u hc hf1 hg1 hd h0 hb he ha hF
       replace hb : Below w6.heap.size w6 u := hb.drew.below (by decide +kernel)
       have hbz : w6.heap.size ≤ u.heap.size := hb.size
       have r4 : ρ (.tmp 4) = .pointer (some ⟨w.heap.size, 0, none⟩) := (h0 4 (by decide +kernel)).trans rfl
       have q_d := (HXd.out.below hb).2.1
       have k_d : w.heap.size < u.heap.size := by have := HXd.out.1; omega
       clear  hd h0 he ha hF
       go_simp
       rw [HF.out]
       exact ⟨OnlyL.refl _ _, rfl⟩
      ·intro gh ρ u hc hf1 hg1 hd h0 hb he ha hF
       have r1 : ρ (.tmp 1) = .slice B k g := (h0 1 (by decide +kernel)).trans rfl
       clear  hd h0 he ha hF
       go_simp
       rw [HF.out]
       exact ⟨OnlyL.refl _ _, rfl⟩
      ·intro gh ρ u hc hf1 hg1 hd h0 hb he ha hF
       have r2 : ρ (.tmp 2) = .int .i64 (k : Int) := (h0 2 (by decide +kernel)).trans rfl
       clear  hd h0 he ha hF
       go_simp
       rw [HF.out]
       exact ⟨OnlyL.refl _ _, rfl⟩
      ·intro gh ρ u hc hf1 hg1 hd h0 hb he ha hF
       have r47 : ρ (.tmp 47) = .slice B k g := by have h := hF 1 (by decide +kernel) (by decide +kernel); rw [HF.out] at h; exact (hd 1 (by decide +kernel) 47 (by kernel_rfl)).trans h
       have r48 : ρ (.tmp 48) = .int .i64 (k : Int) := by have h := hF 2 (by decide +kernel) (by decide +kernel); rw [HF.out] at h; exact (hd 2 (by decide +kernel) 48 (by kernel_rfl)).trans h
       clear  hd h0 he ha hF
       go_simp
       rw [HF.out]
       exact ⟨OnlyL.refl _ _, rfl⟩
      ·intro gh ρ u hc hf1 hg1 hd h0 hb he ha hF
       replace hb : Below w6.heap.size w6 u := hb.drew.below (by decide +kernel)
       have hbz : w6.heap.size ≤ u.heap.size := hb.size
       have r46 : ρ (.tmp 46) = .agg #[.slice A n c] := by have h := hF 0 (by decide +kernel) (by decide +kernel); rw [HF.out] at h; exact (hd 0 (by decide +kernel) 46 (by kernel_rfl)).trans h
       have r49 : ρ (.tmp 49) = .slice B k g := by have h := hF 3 (by decide +kernel) (by decide +kernel); rw [HF.out] at h; exact (hd 3 (by decide +kernel) 49 (by kernel_rfl)).trans h
       clear  hd h0 he ha hF
       go_simp
       have q_d := (HXd.out.below hb)
       refine (implPutAll_c A c _ _ n l B g _ _ k (ws.take k) _ (HOA.out.below hb) HN.out hl (Rd.front (by rw [← wris_take]; exact HR0.out.below (below_then HB.out hb HB.out.size))) HLT.out (by omega) HFT.out).mono ?_
       rintro e u1 ⟨A4, c4, rfl, ho, hb1⟩
       rw [HF.out]
       exact ⟨_, rfl, OnlyL.of_below hb1, A4, c4, rfl, ho⟩
      ·intro gh ρ u hc hf1 hg1 hd h0 hb he ha hF
       have f4 : ∃ (A4 : Option Addr) (c4 : Nat), (gh 4).v = .tuple #[.agg #[.slice A4 (putAllM l (ws.take k)).length c4], .int .i64 (putAllK l (ws.take k))] ∧ (Own u (gh 4).s (gh 4).e A4 (strs (putAllM l (ws.take k)))) := by have h := hF 4 (by decide +kernel) (by decide +kernel); rw [HF.out] at h; exact h
       obtain ⟨A4, c4, hv4, g4_0⟩ := f4
       have hrt4 := hv4
       have r50 : ρ (.tmp 50) = .tuple #[.agg #[.slice A4 (putAllM l (ws.take k)).length c4], .int .i64 (putAllK l (ws.take k))] := (hd 4 (by decide +kernel) 50 (by kernel_rfl)).trans hv4
       have HRT4 := Lib.hid hrt4
       clear hv4 hrt4 hd h0 he ha hF
       go_simp
       rw [HF.out]
       exact ⟨OnlyL.refl _ _, A4, c4, HRT4.out, rfl⟩
      ·intro gh ρ u hc hf1 hg1 hd h0 hb he ha hF
       have f5 : ∃ (A4 : Option Addr) (c4 : Nat), (gh 4).v = .tuple #[.agg #[.slice A4 (putAllM l (ws.take k)).length c4], .int .i64 (putAllK l (ws.take k))] ∧ (gh 5).v = .tuple #[.agg #[.slice A4 (putAllM l (ws.take k)).length c4], .int .i64 (putAllK l (ws.take k))] := by have h := hF 5 (by decide +kernel) (by decide +kernel); rw [HF.out] at h; exact h
       obtain ⟨A4, c4, hrt4, hv5⟩ := f5
       have r45 : ρ (.tmp 45) = .tuple #[.agg #[.slice A4 (putAllM l (ws.take k)).length c4], .int .i64 (putAllK l (ws.take k))] := (hd 5 (by decide +kernel) 45 (by kernel_rfl)).trans hv5
       have HRT4 := Lib.hid hrt4
       clear hv5 hrt4 hd h0 he ha hF
       go_simp
       rw [HF.out]
       exact ⟨OnlyL.refl _ _, A4, c4, HRT4.out, rfl⟩
      ·intro gh ρ u hc hf1 hg1 hd h0 hb he ha hF
       have f5 : ∃ (A4 : Option Addr) (c4 : Nat), (gh 4).v = .tuple #[.agg #[.slice A4 (putAllM l (ws.take k)).length c4], .int .i64 (putAllK l (ws.take k))] ∧ (gh 5).v = .tuple #[.agg #[.slice A4 (putAllM l (ws.take k)).length c4], .int .i64 (putAllK l (ws.take k))] := by have h := hF 5 (by decide +kernel) (by decide +kernel); rw [HF.out] at h; exact h
       obtain ⟨A4, c4, hrt4, hv5⟩ := f5
       have r45 : ρ (.tmp 45) = .tuple #[.agg #[.slice A4 (putAllM l (ws.take k)).length c4], .int .i64 (putAllK l (ws.take k))] := (hd 5 (by decide +kernel) 45 (by kernel_rfl)).trans hv5
       have HRT4 := Lib.hid hrt4
       clear hv5 hrt4 hd h0 he ha hF
       go_simp
       rw [HF.out]
       exact ⟨OnlyL.refl _ _, A4, c4, HRT4.out, rfl⟩
      ·intro gh ρ u hc hf1 hg1 hd h0 hb he ha hF
       replace hb : Below w6.heap.size w6 u := hb.drew.below (by decide +kernel)
       have hbz : w6.heap.size ≤ u.heap.size := hb.size
       clear  hd h0 he ha hF
       go_simp
       rw [HF.out]
       exact ⟨OnlyL.of_below ((Below.refl _ _).alloc (Nat.le_refl _) _), rfl, by simp, NewBox.new _ _ _⟩
      ·intro gh ρ u hc hf1 hg1 hd h0 hb he ha hF
       replace hb : Below w6.heap.size w6 u := hb.drew.below (by decide +kernel)
       have hbz : w6.heap.size ≤ u.heap.size := hb.size
       have f8 : (gh 8).v = .pointer (some ⟨(gh 8).s, 0, none⟩) ∧ (gh 8).s < (gh 8).e ∧ NewBox u (gh 8).s [.slice none 0 0] := by have h := hF 8 (by decide +kernel) (by decide +kernel); rw [HF.out] at h; exact h
       obtain ⟨hv8, hpl, hpz, hpc, hpf⟩ := f8
       have r11 : ρ (.tmp 11) = .pointer (some ⟨(gh 8).s, 0, none⟩) := (hd 8 (by decide +kernel) 11 (by kernel_rfl)).trans hv8
       have HP := Lib.hid hv8
       have f6 : ∃ (A4 : Option Addr) (c4 : Nat), (gh 4).v = .tuple #[.agg #[.slice A4 (putAllM l (ws.take k)).length c4], .int .i64 (putAllK l (ws.take k))] ∧ (gh 6).v = .agg #[.slice A4 (putAllM l (ws.take k)).length c4] := by have h := hF 6 (by decide +kernel) (by decide +kernel); rw [HF.out] at h; exact h
       obtain ⟨A4, c4, hrt4, hv6⟩ := f6
       have r51 : ρ (.tmp 51) = .agg #[.slice A4 (putAllM l (ws.take k)).length c4] := (hd 6 (by decide +kernel) 51 (by kernel_rfl)).trans hv6
       have HRT4 := Lib.hid hrt4
       obtain ⟨_, _, _⟩ := he 8 (by decide +kernel)
       clear hv8 hv6 hrt4 hd h0 he ha hF
       go_simp
       rw [HF.out]
       refine ⟨?_, HP.out, hpl, A4, c4, HRT4.out, ?_⟩
       ·refine OnlyL.of_only (t := gh 8) ?_; refine Only.setCell ?_ (by exact Nat.le_refl _) (by exact hpl) _; exact Only.refl _ _ _
       ·show NewBox _ (gh 8).s _
        exact ⟨by simpa [World.setCell] using hpz, fun o => by rcases o with _ | o <;> go_simp, fun o => by go_simp⟩
      ·intro gh ρ u hc hf1 hg1 hd h0 hb he ha hF
       have f7 : ∃ (A4 : Option Addr) (c4 : Nat), (gh 4).v = .tuple #[.agg #[.slice A4 (putAllM l (ws.take k)).length c4], .int .i64 (putAllK l (ws.take k))] ∧ (gh 7).v = .int .i64 (putAllK l (ws.take k)) := by have h := hF 7 (by decide +kernel) (by decide +kernel); rw [HF.out] at h; exact h
       obtain ⟨A4, c4, hrt4, hv7⟩ := f7
       have r52 : ρ (.tmp 52) = .int .i64 (putAllK l (ws.take k)) := (hd 7 (by decide +kernel) 52 (by kernel_rfl)).trans hv7
       have HRT4 := Lib.hid hrt4
       clear hv7 hrt4 hd h0 he ha hF
       go_simp
       rw [HF.out]
       exact ⟨OnlyL.refl _ _, A4, c4, HRT4.out, rfl⟩
      intro gh w7 hB hE hA hF
      replace hB : Below w6.heap.size w6 w7 := hB.below rfl
      have f0 : (gh 0).v = .agg #[.slice A n c] := by have h := hF 0 (by decide +kernel) (by decide +kernel); rw [HF.out] at h; exact h
      have f1 : (gh 1).v = .slice B k g := by have h := hF 1 (by decide +kernel) (by decide +kernel); rw [HF.out] at h; exact h
      have f2 : (gh 2).v = .int .i64 (k : Int) := by have h := hF 2 (by decide +kernel) (by decide +kernel); rw [HF.out] at h; exact h
      have f3 : (gh 3).v = .slice B k g := by have h := hF 3 (by decide +kernel) (by decide +kernel); rw [HF.out] at h; exact h
      have f4 : ∃ (A4 : Option Addr) (c4 : Nat), (gh 4).v = .tuple #[.agg #[.slice A4 (putAllM l (ws.take k)).length c4], .int .i64 (putAllK l (ws.take k))] ∧ (Own w7 (gh 4).s (gh 4).e A4 (strs (putAllM l (ws.take k)))) := by have h := hF 4 (by decide +kernel) (by decide +kernel); rw [HF.out] at h; exact h
      have f5 : ∃ (A4 : Option Addr) (c4 : Nat), (gh 4).v = .tuple #[.agg #[.slice A4 (putAllM l (ws.take k)).length c4], .int .i64 (putAllK l (ws.take k))] ∧ (gh 5).v = .tuple #[.agg #[.slice A4 (putAllM l (ws.take k)).length c4], .int .i64 (putAllK l (ws.take k))] := by have h := hF 5 (by decide +kernel) (by decide +kernel); rw [HF.out] at h; exact h
      have f6 : ∃ (A4 : Option Addr) (c4 : Nat), (gh 4).v = .tuple #[.agg #[.slice A4 (putAllM l (ws.take k)).length c4], .int .i64 (putAllK l (ws.take k))] ∧ (gh 6).v = .agg #[.slice A4 (putAllM l (ws.take k)).length c4] := by have h := hF 6 (by decide +kernel) (by decide +kernel); rw [HF.out] at h; exact h
      have f7 : ∃ (A4 : Option Addr) (c4 : Nat), (gh 4).v = .tuple #[.agg #[.slice A4 (putAllM l (ws.take k)).length c4], .int .i64 (putAllK l (ws.take k))] ∧ (gh 7).v = .int .i64 (putAllK l (ws.take k)) := by have h := hF 7 (by decide +kernel) (by decide +kernel); rw [HF.out] at h; exact h
      have f9 : (gh 8).v = .pointer (some ⟨(gh 8).s, 0, none⟩) ∧ (gh 8).s < (gh 8).e ∧ ∃ (A4 : Option Addr) (c4 : Nat), (gh 4).v = .tuple #[.agg #[.slice A4 (putAllM l (ws.take k)).length c4], .int .i64 (putAllK l (ws.take k))] ∧ NewBox w7 (gh 8).s [.slice A4 (putAllM l (ws.take k)).length c4] := by have h := hF 9 (by decide +kernel) (by decide +kernel); rw [HF.out] at h; exact h
      have f10 : ∃ (A4 : Option Addr) (c4 : Nat), (gh 4).v = .tuple #[.agg #[.slice A4 (putAllM l (ws.take k)).length c4], .int .i64 (putAllK l (ws.take k))] ∧ (gh 10).v = .int .i64 (putAllK l (ws.take k)) := by have h := hF 10 (by decide +kernel) (by decide +kernel); rw [HF.out] at h; exact h
      obtain ⟨A4, c4, hv4, ho4⟩ := f4
      have hv0 := f0
      have hv1 := f1
      have hv2 := f2
      have hv3 := f3
      obtain ⟨A4_5, c4_5, hu4, hv5⟩ := f5
      replace hu4 := hv4.symm.trans hu4
      simp at hu4
      try simp only [and_assoc] at hu4
      obtain ⟨rfl, rfl⟩ := hu4
      obtain ⟨A4_6, c4_6, hu4, hv6⟩ := f6
      replace hu4 := hv4.symm.trans hu4
      simp at hu4
      try simp only [and_assoc] at hu4
      obtain ⟨rfl, rfl⟩ := hu4
      obtain ⟨A4_7, c4_7, hu4, hv7⟩ := f7
      replace hu4 := hv4.symm.trans hu4
      simp at hu4
      try simp only [and_assoc] at hu4
      obtain ⟨rfl, rfl⟩ := hu4
      obtain ⟨hv8, hl8, f9⟩ := f9
      obtain ⟨A4_9, c4_9, hu4, hx9⟩ := f9
      replace hu4 := hv4.symm.trans hu4
      simp at hu4
      try simp only [and_assoc] at hu4
      obtain ⟨rfl, rfl⟩ := hu4
      obtain ⟨A4_10, c4_10, hu4, hv10⟩ := f10
      replace hu4 := hv4.symm.trans hu4
      simp at hu4
      try simp only [and_assoc] at hu4
      obtain ⟨rfl, rfl⟩ := hu4
      obtain ⟨hs4, hse4, he4⟩ := hE 4 (by decide +kernel)
      obtain ⟨hs8, hse8, he8⟩ := hE 8 (by decide +kernel)
      have hdj7_4_8 := hA 4 (by decide +kernel) 8 (by decide +kernel) (by decide)
      change w6.heap.size ≤ _ at hs4 hs8
      clear hE hA hF
      simp only [putDs, Nat.reduceAdd, hv0, hv1, hv2, hv3, hv4, hv5, hv6, hv7, hv8, hv10]
      clear hv0 hv1 hv2 hv3 hv4 hv5 hv6 hv7 hv8 hv10
      generalize (gh 4).s = s7_4 at *
      generalize (gh 4).e = e7_4 at *
      generalize (gh 8).s = s7_8 at *
      generalize (gh 8).e = e7_8 at *
      clear HF
      have hb := hB
      clear hB
      have hzw7 : w6.heap.size ≤ w7.heap.size := hb.size
      have hzzw7 : w.heap.size ≤ w7.heap.size := by omega
      replace HB := Lib.hid (below_then HB.out hb HB.out.size)
      replace HOA := Lib.hid (HOA.out.below hb)
      replace HXd := Lib.hid (HXd.out.below hb)
      clear hxd hfd hkd
      have hxd := HXd.out.2.1
      have hfd := HXd.out.2.2
      have hkd := HXd.out.1
      replace HXr0 := Lib.hid (HXr0.out.below hb)
      clear hxr0 hfr0 hkr0
      have hxr0 := HXr0.out.2.1
      have hfr0 := HXr0.out.2.2
      have hkr0 := HXr0.out.1
      replace HXnx := Lib.hid (HXnx.out.below hb)
      clear hxnx hfnx hknx
      have hxnx := HXnx.out.2.1
      have hfnx := HXnx.out.2.2
      have hknx := HXnx.out.1
      clear hb
      have HXo0 : Hid (NewBox w7 (s7_8) [.slice A4 (putAllM l (ws.take k)).length c4]) := hx9
      have hxo0 := HXo0.out.2.1
      have hfo0 := HXo0.out.2.2
      have hko0 := HXo0.out.1
      clear hx9
      have HON4 : Hid (Own w7 (s7_4) (e7_4) (A4) (strs (putAllM l (ws.take k)))) := Lib.hid ho4
      clear ho4
      rw [HPM.out.2]
      rcases (show putAllN l (ws.take k) = k ∨ putAllN l (ws.take k) ≠ k by omega) with h9 | h9
      ·have H9 := Lib.hid h9
       have hq : (((putAllN l (ws.take k) : Nat) : Int) != (k : Int)) = false := by rw [h9]; simp
       clear h9
       have e1 : Hid (cutOkM l ws k (0 : Nat) = true) := by rw [Hid, cutOkM, HCP.out, cutDone_0, HLT.out, H9.out]; simp
       have e2 : Hid (cutAtM l ws k (0 : Nat) = putAllM l (ws.take k)) := by rw [Hid, cutAtM, e1.out, if_pos rfl, cutDone_0, HPM.out.1]
       go_wp2
       refine bodyPost_ret (v := .tuple #[.agg #[.slice A4 (putAllM l (ws.take k)).length c4], .bool true]) (by simp [results, Try.results11, go_sem, World.cell?_setCell_same _ _ _ (HXr0.out.cell (o := 0) rfl)]) rfl ?_
       exact ⟨A4, c4, by rw [e1.out, e2.out], by rw [e2.out]; exact ((by (repeat (first | (with_reducible refine Own.alloc ?_ _) | (with_reducible refine Own.drew ?_) | ((with_reducible refine Own.setCell ?_ ?_ _); rotate_left 1; (focus (first | omega | (simp; done) | (simp; omega)))))); exact HON4.out) : Own _ (s7_4) (e7_4) A4 _).mono (by omega) (by first | omega | (simp [World.setCell]; done) | (simp [World.setCell]; omega)) (by first | omega | (simp [World.setCell]; done) | (simp [World.setCell]; omega)), (by ((repeat (first | ((with_reducible refine Below.alloc ?_ ?_ _); rotate_left 1; (focus (first | omega | (simp; done) | (simp; omega)))) | (with_reducible refine Below.drew ?_) | ((with_reducible refine Below.setCell ?_ ?_ _); rotate_left 1; (focus (first | omega | (simp; done) | (simp; omega)))))); exact HB.out))⟩
      ·have hq : (((putAllN l (ws.take k) : Nat) : Int) != (k : Int)) = true := by rw [bne_iff_ne]; omega
       have e1 : Hid (cutOkM l ws k (0 : Nat) = false) := by rw [Hid, cutOkM, HCP.out, cutDone_0, HLT.out]; simp; exact h9
       have hc := Lib.hid (And.intro e1.out (cutAtM_no e1.out))
       clear h9
       go_wp2
       refine bodyPost_ret (v := .tuple #[.agg #[.slice none 0 0], .bool false]) (by simp [results, Try.results11, go_sem, World.cell?_setCell_same _ _ _ (HXr0.out.cell (o := 0) rfl)]) rfl ?_
       first
        | exact ⟨none, 0, by rw [hc.out.1, hc.out.2]; rfl, by rw [hc.out.2]; exact Own.nil, (by ((repeat (first | ((with_reducible refine Below.alloc ?_ ?_ _); rotate_left 1; (focus (first | omega | (simp; done) | (simp; omega)))) | (with_reducible refine Below.drew ?_) | ((with_reducible refine Below.setCell ?_ ?_ _); rotate_left 1; (focus (first | omega | (simp; done) | (simp; omega)))))); exact HB.out))⟩
        | exact ⟨none, ⟨0, by rw [hc.out.1, hc.out.2]; rfl⟩, by rw [hc.out.2]; exact Own.nil, (by ((repeat (first | ((with_reducible refine Below.alloc ?_ ?_ _); rotate_left 1; (focus (first | omega | (simp; done) | (simp; omega)))) | (with_reducible refine Below.drew ?_) | ((with_reducible refine Below.setCell ?_ ?_ _); rotate_left 1; (focus (first | omega | (simp; done) | (simp; omega)))))); exact HB.out))⟩
end Go.Proofs.Ytoccjgcokffkbaa
