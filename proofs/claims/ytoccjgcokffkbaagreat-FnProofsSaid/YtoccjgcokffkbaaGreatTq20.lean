/- Part 20 of the proof of FnProofs: lemmas and contracts. -/
import Derived.Test.YtoccjgcokffkbaaGreatTq19
import Derived.StillTailTactics
import Derived.Test.YtoccjgcokffkbaaGreatTq6
import Derived.Test.YtoccjgcokffkbaaGreatTq16
import Derived.Deep.RegionLaw
namespace Go.Proofs.YtoccjgcokffkbaaGreat
set_option linter.unusedVariables false
set_option linter.unusedSimpArgs false
set_option maxHeartbeats 20000000
section
open Go.RowKit
theorem slicePreE (A : Option Addr) (k g m : Nat) (h : m ≤ g) (W : World) : (Instr.slice 24 (.slice A k g) none (some (.int .i64 m)) none).run Tryz.prog W = .ok (.slice A m g) W := by
 have h1 : (m : Int) ≤ g := by omega
 rcases A with _ | ⟨b, off, sp⟩
 ·go_simp
 ·by_cases hg : g = 0
  ·subst hg
   obtain rfl : m = 0 := by omega
   go_simp
  ·rcases sp with _ | sp <;> go_simp
theorem brkOk_parts {width : Int} {es : List Ent} {rs : List Rcp} {hs : List Hd} {z1 : Int} {l1 : List ByteArray} {z2 : Int} {l2 : List ByteArray} {h : Hd} (hb : brkOk width es rs hs z1 l1 z2 l2 h = true) : BrkParts width es rs hs := by
 rw [brkOk, Bool.and_eq_true] at hb
 exact brkParts_all hb.1
theorem RowB.ownB {w : World} {lo hi n c m : Nat} {A : Option Addr} {xs : List Value} (h : RowB w lo hi (.slice A n c, m) xs) (hm : m = n) (hh : hi ≤ w.heap.size) (hl : lo ≤ w.heap.size) : Own w lo hi A xs := by
 subst hm
 rcases row_one h.1 hl with rfl | ⟨g, rfl, h1, h2, h3⟩
 ·exact Own.nil
 ·exact h3.mono h1 (h.2 g rfl) hh
set_option maxRecDepth 100000 in
theorem leaves_c (width z1 z2 : Int) (p m : Nat) (E R H A1 A2 : Option Addr) (ne nr nh ce cr ch c1 c2 lo1 hi1 m1 m2 : Nat) (es : List Ent) (h : Hd) (w : World) (hbx : NewBox w p [.int .i64 width, .slice E ne ce, .slice R nr cr, .slice H nh ch, .int .i64 z1, .slice A1 m1 c1, .int .i64 z2, .slice A2 m2 c2, .int .i64 h.num, .int .i64 h.size, .string h.root, .int .i64 h.taken, .string h.troot]) (hE : Rd w lo1 hi1 E (ents es)) (hne : es.length = ne) (h1 : ne ≤ 1048576) (hc : ne ≤ ce) (hm : m ≤ ne) (hfe : ∀ x ∈ es, x.fits) :
  Calls Tryz.prog 76 #[.pointer (some ⟨p, 0, none⟩), .int .i64 m] w fun e w' => ∃ A' c', e = .returned (.slice A' m c') ∧ w'.ownsRow w.heap.size 9 1 (.slice A' m c') m (strs ((leavesM width es).take m)) ∧ Below w.heap.size w w' := by
 have HC := lH (fun W (a : Rd W 0 W.heap.size E (ents es)) => hashesOf_c width E ce 0 W.heap.size m (es.take m) W (a.entsTake m) (by rw [List.length_take]; omega) (by omega) (fun x hx => hfe x (List.mem_of_mem_take hx)))
 rw [show (es.take m).map (leafHashM width) = (leavesM width es).take m from List.map_take] at HC
 have hpe := slicePreE E ne ce m (by omega)
 have HE := lH hE
 have hkb := hbx.1
 have c0 := hbx.cell (o := 0) rfl
 have cE := hbx.cell (o := 1) rfl
 generalize (leavesM width es).take m = lt at *
 clear hbx hE hne hfe
 go_enter Tryz.func76, Tryz.ntmps76
 go_wp2_with fail
 go_still_tail 12, (by kernel_rfl)
 change wpList _ _ _ _ _ w.drew
 generalize hwd : w.drew = w6
 have HB6 : Hid (Below w.heap.size w w6) := by rw [Hid, ← hwd]; exact (Below.refl _ _).drew
 clear hwd c0 cE hpe
 go_wp2_with fail
 refine (HC.out _ (HE.out.below HB6.out).base).mono ?_
 rintro e w7 ⟨A7, c7, rfl, ho, hb⟩
 have hs6 := HB6.out.size
 have HO := lH (row_mono ho hs6)
 have HB7 := lH (below_then HB6.out hb HB6.out.size)
 clear ho hb HC
 go_wp2
 go_ret
 exact ⟨A7, c7, rfl, HO.out, HB7.out⟩
def framesW (l : List ByteArray) : List UInt8 := l.flatMap fun t => (frameM t).data.toList
def framesFine (l : List ByteArray) : Nat → Bool
 | 0 => true
 | k + 1 => framesFine l k && match l[k]? with
   | some t => frameOk t && decide (((frameM t).size : Int) ≤ 300000 - (framesW (l.take k)).length)
   | none => false
def framesOk (l : List ByteArray) : Bool := decide (l.length ≤ 600) && framesFine l l.length
def framesM (l : List ByteArray) : ByteArray := if framesOk l then ⟨(framesW l).toArray⟩ else ByteArray.empty
theorem framesW_take {l : List ByteArray} {k : Nat} {t : ByteArray} (h : l[k]? = some t) : framesW (l.take (k + 1)) = framesW (l.take k) ++ (frameM t).data.toList := by
 rw [take_succ h, framesW, List.flatMap_append]; simp [framesW]
theorem framesFine_le {l : List ByteArray} : ∀ {n k : Nat}, k ≤ n → framesFine l n = true → framesFine l k = true
 | 0, k, hk, h => by
   obtain rfl : k = 0 := by omega
   exact h
 | n + 1, k, hk, h => by
   by_cases e : k = n + 1
   ·subst e; exact h
   ·rw [framesFine, Bool.and_eq_true] at h
    exact framesFine_le (by omega) h.1
theorem framesOk_no {l : List ByteArray} {n k : Nat} {t : ByteArray} (hn : l.length = n) (hk : k < n) (ht : l[k]? = some t) (h : (frameOk t && decide (((frameM t).size : Int) ≤ 300000 - (framesW (l.take k)).length)) = false) : framesOk l = false := by
 rcases hh : framesOk l with _ | _
 ·rfl
 ·rw [framesOk, Bool.and_eq_true] at hh
  have h1 := framesFine_le (n := l.length) (k := k + 1) (by omega) hh.2
  rw [framesFine, ht] at h1
  simp only [h, Bool.and_false] at h1
  cases h1
theorem frameM_pos {t : ByteArray} (h : frameOk t = true) : 2 ≤ (frameM t).size := by
 rw [frameM, if_pos h, frameB, ByteArray.size_append, ByteArray.size_append, pairB_size]; omega
theorem frameM_le {t : ByteArray} (h : frameOk t = true) : (frameM t).size ≤ 1040 := by
 have h1 := digM_le 4 4 t
 have h2 := inR_true.1 h
 rw [frameM, if_pos h, frameB, ByteArray.size_append, ByteArray.size_append, pairB_size]; omega
set_option maxRecDepth 100000 in
theorem specFrames_c (A : Option Addr) (c lo hi n : Nat) (l : List ByteArray) (w : World) (hr : Rd w lo hi A (strs l)) (hn : l.length = n) (hl : n + bulkS l ≤ 1048576) :
  Calls Tryz.prog 195 #[.slice A n c] w fun e w' => e = .returned (.tuple #[.string (framesM l), .bool (framesOk l)]) ∧ Below w.heap.size w w' := by
 have HR := lH hr.base
 have HN := lH hn
 have HL := lH hl
 have hn2 : n ≤ 1048576 := by omega
 have hrow := row_made w 5 0
 have hbl : Below w.heap.size w (w.alloc (.cells #[] 5)) := (Below.refl _ _).alloc (Nat.le_refl _) _
 have HROW := lH hrow
 have HBL := lH hbl
 have hcv := fun (W : World) (s : ByteArray) => Lib.run_convert_string_bytes (P := Tryz.prog) W 9 22 5 s Tryz.underlying9 Tryz.underlying22 Tryz.underlying5
 have hbad : framesOk l = false → (.tuple #[.string (framesM l), .bool (framesOk l)] : Value) = .tuple #[.string ⟨#[]⟩, .bool false] := fun h => by rw [framesM, h]; rfl
 have HBAD := lH hbad
 clear hr hn hl hbad hrow hbl
 by_cases h6 : n ≤ 600
 ·go_enter Tryz.func195, Tryz.ntmps195
  go_wp2
  go_loopw [4, 5] (fun v i wx => ∃ k m g c0 : Nat, k ≤ n ∧ i = .int .i64 k ∧ m ≤ 300000 ∧ (framesW (l.take k)).length = m ∧ framesFine l k = true ∧ v = .slice (some ⟨g, 0, none⟩) m c0 ∧ wx.ownsRow w.heap.size 5 1 (.slice (some ⟨g, 0, none⟩) m c0) m (Lib.byteCells (framesW (l.take k))) ∧ Below w.heap.size w wx) (fun _ i _ => n - (intOf i).toNat)
  case atStart => exact ⟨0, 0, _, 0, Nat.zero_le _, rfl, Nat.zero_le _, rfl, rfl, rfl, HROW.out, HBL.out⟩
  case round =>
   obtain ⟨k, m, g, c0, hk, rfl, hm3, hm, hfi, rfl, how, hb⟩ := hrel
   have HB := lH hb
   have HOW := lH how
   have HM := lH hm
   have HFI := lH hfi
   clear hb how hm hfi
   by_cases hlt : k < n
   ·obtain ⟨b, off, t, rfl, hb, hks, hcell⟩ := (HR.out.below HB.out).str (k := k) (by rw [HN.out]; exact hlt)
    have htz := bulkS_get hks
    have ht1 : t.size ≤ 1048576 := by have := HL.out; omega
    have HT := lH (framesW_take hks)
    have HNO := lH (framesOk_no HN.out hlt hks)
    have HFF : Hid (framesFine l (k + 1) = (framesFine l k && (frameOk t && decide (((frameM t).size : Int) ≤ 300000 - (framesW (l.take k)).length)))) := lH (by rw [framesFine, hks])
    have HFR := lH (fun W => specFrame_c t W ht1)
    have hI : (k : Int) < n := by omega
    clear hks htz
    go_wp2_with fail
    refine (HFR.out _).mono ?_
    rintro e w1 ⟨rfl, hb1⟩
    have HB1 := lH (below_then HB.out hb1 HB.out.size)
    have HO1 := lH (row_below HOW.out hb1)
    clear hb1 HOW
    rcases q1 : frameOk t with _ | _
    ·have HD := lH (HBAD.out (HNO.out (by rw [q1]; rfl)))
     clear q1
     generalize frameM t = fr at *
     go_wp2
     refine bodyPost_ret (v := .tuple #[.string ⟨#[]⟩, .bool false]) (by simp [results, Tryz.results195, go_sem]) rfl ?_
     exact ⟨by rw [HD.out], HB1.out⟩
    ·have hfz := frameM_le q1
     have hfp := frameM_pos q1
     rw [q1, HM.out] at HNO HFF
     clear q1
     generalize frameM t = fr at *
     have E1 : IntKind.i64.wrap (300000 - (m : Int)) = 300000 - m := by rw [IntKind.wrap_i64]; omega
     rcases Nat.lt_or_ge 300000 (fr.size + m) with hbig | hsm
     ·have HD := lH (HBAD.out (HNO.out (by rw [decide_eq_false (by omega)]; rfl)))
      have hd : decide (300000 - (m : Int) < (fr.size : Int)) = true := decide_eq_true (by omega)
      go_wp2
      refine bodyPost_ret (v := .tuple #[.string ⟨#[]⟩, .bool false]) (by simp [results, Tryz.results195, go_sem]) rfl ?_
      exact ⟨by rw [HD.out], HB1.out⟩
     ·have HFG : Hid (framesFine l (k + 1) = true) := lH (by rw [HFF.out, HFI.out, decide_eq_true (by omega)]; rfl)
      have hd : decide (300000 - (m : Int) < (fr.size : Int)) = false := decide_eq_false (by omega)
      have HO2 := lH (row_below HO1.out (bytes_below w1 5 fr))
      have HB2 := lH (below_then HB1.out (bytes_below w1 5 fr) HB1.out.size)
      have HRD := lH (bytes_rd w1 5 fr)
      go_wp2_with (at_builtin; refine appBy rfl _ _ rfl w.heap.size _ _ _ rfl HO2.out _ fr.size _ 0 _ fr.data.toList rfl (by rw [Array.length_toList]; rfl) HRD.out (fun h => by cases h) (by omega) HB2.out.size ?_)
      intro v2 w2 hown2 hg2
      have hon := grown_only HO2.out hg2
      have HB3 := lH (below_only HB2.out hon (Nat.le_refl _) HB2.out.size)
      obtain ⟨g2, c2, rfl⟩ := row_form hown2 (by omega)
      rw [← bys_app, ← HT.out] at hown2
      have HO3 := lH hown2
      clear hown2 hg2 hon HO2 HO1 hd E1
      go_wp2
      go_roundw
      case rel => exact ⟨k + 1, m + fr.size, g2, c2, by omega, by go_num, by omega, by rw [HT.out, List.length_append, HM.out, Array.length_toList]; rfl, HFG.out, rfl, HO3.out, HB3.out⟩
      case measure => simp [intOf]; omega
   ·obtain rfl : k = n := by omega
    have HOK : Hid (framesOk l = true) := lH (by rw [framesOk, HN.out, HFI.out, decide_eq_true h6]; rfl)
    have HLT : l.take k = l := List.take_of_length_le (by rw [HN.out]; exact Nat.le_refl _)
    rw [HLT] at HOW HM
    have hr := (Own.of_ownsRow HOW.out).rd
    have hcb := run_convert_bytes_back (P := Tryz.prog) wr 22 9 5 ⟨g, 0, none⟩ c0 (framesW l) Tryz.underlying22 Tryz.underlying5 Tryz.underlying9 (fun j hj => by
     have hne : Lib.byteCells (framesW l) ≠ [] := by
      intro e
      have e2 := bys_len (framesW l)
      rw [e] at e2
      simp at e2
      omega
     obtain ⟨b, off, h0, _, _, _, hcs⟩ := hr hne
     cases h0
     have h := hcs j (.int .u8 ((framesW l)[j].toNat : Int)) (by simp [Lib.byteCells, hj])
     rwa [Addr.add_lit])
    rw [HM.out] at hcb
    clear hr hcv HLT
    go_wp2
    refine bodyPost_ret (v := .tuple #[.string ⟨(framesW l).toArray⟩, .bool true]) (by simp [results, Tryz.results195, go_sem]) rfl ?_
    exact ⟨by rw [framesM, HOK.out]; rfl, HB.out⟩
 ·have HD := lH (HBAD.out (by rw [framesOk, HN.out, decide_eq_false h6]; rfl))
  go_enter Tryz.func195, Tryz.ntmps195
  go_wp2
  refine bodyPost_ret (v := .tuple #[.string ⟨#[]⟩, .bool false]) (by simp [results, Tryz.results195, go_sem]) rfl ?_
  exact ⟨by rw [HD.out], Below.refl _ _⟩
def fileL (width : Int) (es : List Ent) (rs : List Rcp) (hs : List Hd) (f : Nat) : List ByteArray := if f = 0 then es.map leafTextM else if f = 1 then (hs.drop 1).map (headTextM width) else rs.map rcpTextM
theorem bulkS_le {m : Nat} : ∀ {l : List ByteArray}, (∀ s ∈ l, s.size ≤ m) → bulkS l ≤ l.length * m
 | [], _ => Nat.zero_le _
 | s :: l, h => by
   have h1 := h s List.mem_cons_self
   have h2 := bulkS_le (l := l) (fun t ht => h t (List.mem_cons_of_mem _ ht))
   rw [bulkS, List.length_cons, Nat.add_mul]
   omega
theorem fileL_le {width : Int} {es : List Ent} {rs : List Rcp} {hs : List Hd} (b1 : es.length ≤ 1000) (b2 : rs.length ≤ 1000) (b3 : hs.length ≤ 1000) (f : Nat) : (fileL width es rs hs f).length + bulkS (fileL width es rs hs f) ≤ 1048576 := by
 have hall : (fileL width es rs hs f).length ≤ 1000 ∧ ∀ s ∈ fileL width es rs hs f, s.size ≤ 480 := by
  unfold fileL
  split
  ·exact ⟨by rw [List.length_map]; exact b1, fun s hs => by obtain ⟨x, _, rfl⟩ := List.mem_map.1 hs; exact leafTextM_size x⟩
  ·split
   ·exact ⟨by rw [List.length_map, List.length_drop]; omega, fun s hs => by obtain ⟨x, _, rfl⟩ := List.mem_map.1 hs; exact Nat.le_trans (headTextM_size width x) (by omega)⟩
   ·exact ⟨by rw [List.length_map]; exact b2, fun s hs => by obtain ⟨x, _, rfl⟩ := List.mem_map.1 hs; exact Nat.le_trans (rcpTextM_size x) (by omega)⟩
 have h2 := bulkS_le hall.2
 have h3 := Nat.mul_le_mul_right 480 hall.1
 omega
set_option maxRecDepth 100000 in
theorem l12File_c (width z1 z2 : Int) (E R H A1 A2 : Option Addr) (ne nr nh ce cr ch c1 c2 lo1 hi1 lo2 hi2 lo3 hi3 m1 m2 : Nat) (es : List Ent) (rs : List Rcp) (hs : List Hd) (h : Hd) (f : Nat) (w : World)
  (hE : Rd w lo1 hi1 E (ents es)) (hR : Rd w lo2 hi2 R (rcps rs)) (hH : Rd w lo3 hi3 H (hds hs)) (hne : es.length = ne) (hnr : rs.length = nr) (hnh : hs.length = nh) (b1 : ne ≤ 1000) (b2 : nr ≤ 1000) (b3 : nh ≤ 1000) (hpos : 1 ≤ nh) (hch : nh ≤ ch) (hfe : ∀ x ∈ es, x.fits) (hfr : ∀ x ∈ rs, x.fits) (hfh : ∀ x ∈ hs, x.bulk ≤ 1048576) (hf2 : f ≤ 2) :
  Calls Tryz.prog 162 #[.agg #[.int .i64 width, .slice E ne ce, .slice R nr cr, .slice H nh ch, .int .i64 z1, .slice A1 m1 c1, .int .i64 z2, .slice A2 m2 c2, .int .i64 h.num, .int .i64 h.size, .string h.root, .int .i64 h.taken, .string h.troot], .int .i64 f] w fun e w' => e = .returned (.string (framesM (fileL width es rs hs f))) ∧ Below w.heap.size w w' := by
 have hfl := fileL_le (width := width) (es := es) (rs := rs) (hs := hs) (by omega) (by omega) (by omega)
 have HF0 := lH hfe
 have HF2 := lH hfr
 have HF1 := lH hfh
 have HN0 := lH hne
 have HN1 := lH hnh
 have HN2 := lH hnr
 have HE0 := lH hE.base
 have HR0 := lH hR.base
 have HH0 := lH hH.base
 obtain ⟨nh1, hnh1, hnh2⟩ : ∃ n, n + 1 ≤ nh ∧ nh ≤ n + 1 := ⟨nh - 1, by omega, by omega⟩
 have hnx : nh - 1 = nh1 := by omega
 obtain rfl | rfl | rfl : f = 0 ∨ f = 1 ∨ f = 2 := by omega
 ·skip
  have hLd : fileL width es rs hs 0 = es.map leafTextM := rfl
  have hLl : (fileL width es rs hs 0).length = ne := by rw [hLd, List.length_map, hne]
  have HFR := lH (fun W A c (r : Rd W 0 W.heap.size A (strs (fileL width es rs hs 0))) => specFrames_c A c 0 W.heap.size ne (fileL width es rs hs 0) W r hLl (by have := hfl 0; omega))
  generalize fileL width es rs hs 0 = L at *
  have HLD := lH hLd
  have HLL := lH hLl
  have HB : Hid (Below w.heap.size w w) := Below.refl _ _
  clear hE hR hH hne hnr hnh hch hfe hfr hfh hfl hLd hLl hnx
  change Calls Tryz.prog 162 #[.agg #[.int .i64 width, .slice E ne ce, .slice R nr cr, .slice H nh ch, .int .i64 z1, .slice A1 m1 c1, .int .i64 z2, .slice A2 m2 c2, .int .i64 h.num, .int .i64 h.size, .string h.root, .int .i64 h.taken, .string h.troot], .int .i64 0] w _
  go_enter Tryz.func162, Tryz.ntmps162
  go_wp2
  refine wp_named (fun w1 hw => ?_)
  have hz1 : w.heap.size + 2 ≤ w1.heap.size := by rw [hw]; first | omega | simp [World.setCell] <;> omega
  have hzz1 : w.heap.size ≤ w1.heap.size := by omega
  have hbn : Below w.heap.size w w1 := by rw [hw]; exact (by repeat with_reducible first | exact bR _ | apply bA | apply bD)
  replace HB := lH (below_then HB.out hbn HB.out.size)
  clear hbn
  have HXb : Hid (NewBox w1 (w.heap.size) [.int .i64 width, .slice E ne ce, .slice R nr cr, .slice H nh ch, .int .i64 z1, .slice A1 m1 c1, .int .i64 z2, .slice A2 m2 c2, .int .i64 h.num, .int .i64 h.size, .string h.root, .int .i64 h.taken, .string h.troot]) := by rw [Hid, hw]; exact ⟨by first | omega | (simp [World.setCell]; done) | (simp [World.setCell]; omega), fun o => by rcases o with _ | _ | _ | _ | _ | _ | _ | _ | _ | _ | _ | _ | _ | o <;> go_simp, fun o => by go_simp⟩
  obtain ⟨hkb, hxb, hfb⟩ := HXb.out
  have HXe1 : Hid (NewBox w1 (w.heap.size + 1) []) := by rw [Hid, hw]; exact ⟨by first | omega | (simp [World.setCell]; done) | (simp [World.setCell]; omega), fun o => by rcases o with o <;> go_simp, fun o => by go_simp⟩
  obtain ⟨hke1, hxe1, hfe1⟩ := HXe1.out
  have HROW : Hid (RowB w1 (w.heap.size + 1) w1.heap.size (.slice (some ⟨w.heap.size + 1, 0, none⟩) 0 0, 0) (strs (L.take 0))) := by
   rw [Hid, hw]; exact RowB.of (by simpa [strs] using row_made (w.alloc _) 9 0)
  clear hw
  go_loopw [5, 6] (fun v i wr => ∃ (k : Nat) (X : Option Addr) (g : Nat), k ≤ ne ∧ i = .int .i64 k ∧ v = .slice X k g ∧ NewBox wr ((w.heap.size)) [.int .i64 width, .slice E ne ce, .slice R nr cr, .slice H nh ch, .int .i64 z1, .slice A1 m1 c1, .int .i64 z2, .slice A2 m2 c2, .int .i64 h.num, .int .i64 h.size, .string h.root, .int .i64 h.taken, .string h.troot] ∧ RowB wr (w.heap.size + 1) wr.heap.size (.slice X k g, k) (strs (L.take k)) ∧ Below w.heap.size w wr ∧ w1.heap.size ≤ wr.heap.size) (fun _ i _ => nh + ne - (intOf i).toNat)
  case atStart => exact ⟨0, _, 0, Nat.zero_le _, rfl, rfl, HXb.out, HROW.out, HB.out, Nat.le_refl _⟩
  case round =>
   obtain ⟨k, X, g, hk, rfl, rfl, hbb, hrw, hbl, hzl⟩ := hrel
   have HBL := lH hbl
   replace HB : Hid (Below w.heap.size w wr) := HBL.out
   replace HXb : Hid (NewBox wr (w.heap.size) [.int .i64 width, .slice E ne ce, .slice R nr cr, .slice H nh ch, .int .i64 z1, .slice A1 m1 c1, .int .i64 z2, .slice A2 m2 c2, .int .i64 h.num, .int .i64 h.size, .string h.root, .int .i64 h.taken, .string h.troot]) := hbb
   clear hxb hfb hkb
   obtain ⟨hkb, hxb, hfb⟩ := HXb.out
   have HOA : Hid (RowB wr (w.heap.size + 1) (wr.heap.size) (.slice X k g, k) (strs (L.take k))) := lH hrw
   have HOE := lH (HE0.out.below HBL.out)
   clear hxe1 hfe1 hke1 HXe1
   have hzz_wr : w.heap.size ≤ wr.heap.size := HB.out.size
   clear hbb hrw hbl HROW
   by_cases hlt : k < ne
   ·skip
    obtain ⟨b2, off, x, hEe, hb2, hks, hcs⟩ := ent_cells HOE.out (k := k) (by rw [HN0.out]; omega)
    have c0' := hcs.1
    have c1' := hcs.2.1
    have c2' := hcs.2.2.1
    have c3' := hcs.2.2.2.1
    have c4' := hcs.2.2.2.2
    have hix := idxEnt E b2 off ne ce k hEe (by omega)
    have HT : Hid (L.take (k + 1) = L.take k ++ [leafTextM x]) := lH (take_succ (by rw [HLD.out, List.getElem?_map, hks]; rfl))
    have HX := lH (fun W => specLeafText_c x W (HF0.out x (List.mem_of_getElem? hks)))
    have hI : (k : Int) < ne := by omega
    clear hks hcs hEe
    generalize leafTextM x = lt at *
    generalize entryOk x = lk at *
    clear HOE
    go_wp2_with fail
    refine calls_named (fun w2 hw => ?_)
    have hz2 : wr.heap.size + 0 ≤ w2.heap.size := by rw [hw]; first | omega | simp [World.setCell] <;> omega
    have hzz2 : w.heap.size ≤ w2.heap.size := by omega
    have hbn : Below wr.heap.size wr w2 := by rw [hw]; exact (by repeat with_reducible first | exact bR _ | apply bA | apply bD)
    replace HB := lH (below_then HB.out hbn HB.out.size)
    replace HOA := lH (HOA.out.below hbn)
    replace HXb := lH (HXb.out.below hbn)
    clear hxb hfb hkb
    obtain ⟨hkb, hxb, hfb⟩ := HXb.out
    clear hbn
    clear hw
    refine (HX.out _).mono ?_
    rintro e w3 ⟨rfl, hb⟩
    have hzw3 : w2.heap.size ≤ w3.heap.size := hb.size
    have hzzw3 : w.heap.size ≤ w3.heap.size := by omega
    replace HB := lH (below_then HB.out hb HB.out.size)
    replace HOA := lH (HOA.out.below hb)
    replace HXb := lH (HXb.out.below hb)
    clear hxb hfb hkb
    obtain ⟨hkb, hxb, hfb⟩ := HXb.out
    clear hb
    clear c0' c1' c2' c3' c4' hix
    go_wp2_with (at_builtin; refine app1Str rfl _ _ rfl (w.heap.size + 1) _ _ _ rfl (HOA.out.1.alloc _) w3.heap.size lt rfl (NewBox.new w3 _ _) (by omega) (by first | omega | (simp; done) | (simp; omega)) ?_)
    intro v2 w2_ hown2 hg2
    obtain ⟨hrb, hon⟩ := rowB_app HOA.out.1 _ hown2 hg2
    obtain ⟨A9, g9, rfl, _, _, _⟩ := ownsRow_slice hown2
    rw [← strs_app, ← HT.out] at hrb
    have hzw2_ : w3.heap.size ≤ w2_.heap.size := hon.size
    have hzzw2_ : w.heap.size ≤ w2_.heap.size := by omega
    replace HB := lH (below_only HB.out hon (by omega) HB.out.size)
    replace HXb := lH (HXb.out.only hon (by first | omega | (simp; omega)))
    clear hxb hfb hkb
    obtain ⟨hkb, hxb, hfb⟩ := HXb.out
    clear HOA
    have HOA : Hid (RowB w2_ (w.heap.size + 1) (w2_.heap.size) (.slice A9 (k + 1) g9, k + 1) (strs (L.take (k + 1)))) := lH hrb
    clear hown2 hg2 hrb hon
    go_wp2
    go_roundw
    case rel => exact ⟨k + 1, A9, g9, by omega, by go_num, rfl, HXb.out, HOA.out, HB.out, by omega⟩
    case measure => simp [intOf]; omega
   ·skip
    obtain rfl : ne = k := by omega
    have HXX := lH HOA.out
    rw [show L.take ne = L from List.take_of_length_le (by rw [HLL.out]; exact Nat.le_refl _)] at HXX
    clear HOA
    clear HOE
    have HOA : Hid (RowB wr (w.heap.size + 1) (wr.heap.size) (.slice X ne g, ne) (strs L)) := HXX
    clear HXX
    go_wp2
    all_goals rcases Nat.lt_or_ge 1 nh with hz1 | hz1
    all_goals
     first | have hd1 : decide ((1 : Int) < (nh : Int)) = true := decide_eq_true (by omega) | have hd1 : decide ((1 : Int) < (nh : Int)) = false := decide_eq_false (by omega)
     refine wp_loop_once ?_
     go_wp2
     clear hd1 hz1
    all_goals rcases Nat.lt_or_ge 0 nr with hz2 | hz2
    all_goals
     first | have hd2 : decide ((0 : Int) < (nr : Int)) = true := decide_eq_true (by omega) | have hd2 : decide ((0 : Int) < (nr : Int)) = false := decide_eq_false (by omega)
     refine wp_loop_once ?_
     go_wp2_with fail
     clear hd2 hz2
    all_goals
     refine calls_named (fun w2 hw => ?_)
     have hz2 : wr.heap.size + 0 ≤ w2.heap.size := by rw [hw]; first | omega | simp [World.setCell] <;> omega
     have hzz2 : w.heap.size ≤ w2.heap.size := by omega
     have hbn : Below wr.heap.size wr w2 := by rw [hw]; exact (by repeat with_reducible first | exact bR _ | apply bA | apply bD)
     replace HB := lH (below_then HB.out hbn HB.out.size)
     replace HOA := lH (HOA.out.below hbn)
     replace HXb := lH (HXb.out.below hbn)
     clear hxb hfb hkb
     obtain ⟨hkb, hxb, hfb⟩ := HXb.out
     clear hbn
     clear hw
     refine (HFR.out _ _ _ (HOA.out.ownB rfl (by omega) (by omega)).rd.base).mono ?_
     rintro e w3 ⟨rfl, hb⟩
     have hzw3 : w2.heap.size ≤ w3.heap.size := hb.size
     have hzzw3 : w.heap.size ≤ w3.heap.size := by omega
     replace HB := lH (below_then HB.out hb HB.out.size)
     replace HOA := lH (HOA.out.below hb)
     replace HXb := lH (HXb.out.below hb)
     clear hxb hfb hkb
     obtain ⟨hkb, hxb, hfb⟩ := HXb.out
     clear hb
     go_wp2
     go_ret
     exact ⟨rfl, HB.out⟩
 ·skip
  have hLd : fileL width es rs hs 1 = (hs.drop 1).map (headTextM width) := rfl
  have hLl : (fileL width es rs hs 1).length = nh1 := by rw [hLd, List.length_map, List.length_drop, hnh]; exact hnx
  have HFR := lH (fun W A c (r : Rd W 0 W.heap.size A (strs (fileL width es rs hs 1))) => specFrames_c A c 0 W.heap.size nh1 (fileL width es rs hs 1) W r hLl (by have := hfl 1; omega))
  generalize fileL width es rs hs 1 = L at *
  have HLD := lH hLd
  have HLL := lH hLl
  have HB : Hid (Below w.heap.size w w) := Below.refl _ _
  clear hE hR hH hne hnr hnh hch hfe hfr hfh hfl hLd hLl hnx
  change Calls Tryz.prog 162 #[.agg #[.int .i64 width, .slice E ne ce, .slice R nr cr, .slice H nh ch, .int .i64 z1, .slice A1 m1 c1, .int .i64 z2, .slice A2 m2 c2, .int .i64 h.num, .int .i64 h.size, .string h.root, .int .i64 h.taken, .string h.troot], .int .i64 1] w _
  go_enter Tryz.func162, Tryz.ntmps162
  go_wp2
  refine wp_named (fun w1 hw => ?_)
  have hz1 : w.heap.size + 2 ≤ w1.heap.size := by rw [hw]; first | omega | simp [World.setCell] <;> omega
  have hzz1 : w.heap.size ≤ w1.heap.size := by omega
  have hbn : Below w.heap.size w w1 := by rw [hw]; exact (by repeat with_reducible first | exact bR _ | apply bA | apply bD)
  replace HB := lH (below_then HB.out hbn HB.out.size)
  clear hbn
  have HXb : Hid (NewBox w1 (w.heap.size) [.int .i64 width, .slice E ne ce, .slice R nr cr, .slice H nh ch, .int .i64 z1, .slice A1 m1 c1, .int .i64 z2, .slice A2 m2 c2, .int .i64 h.num, .int .i64 h.size, .string h.root, .int .i64 h.taken, .string h.troot]) := by rw [Hid, hw]; exact ⟨by first | omega | (simp [World.setCell]; done) | (simp [World.setCell]; omega), fun o => by rcases o with _ | _ | _ | _ | _ | _ | _ | _ | _ | _ | _ | _ | _ | o <;> go_simp, fun o => by go_simp⟩
  obtain ⟨hkb, hxb, hfb⟩ := HXb.out
  have HXe1 : Hid (NewBox w1 (w.heap.size + 1) []) := by rw [Hid, hw]; exact ⟨by first | omega | (simp [World.setCell]; done) | (simp [World.setCell]; omega), fun o => by rcases o with o <;> go_simp, fun o => by go_simp⟩
  obtain ⟨hke1, hxe1, hfe1⟩ := HXe1.out
  have HROW : Hid (RowB w1 (w.heap.size + 1) w1.heap.size (.slice (some ⟨w.heap.size + 1, 0, none⟩) 0 0, 0) (strs (L.take 0))) := by
   rw [Hid, hw]; exact RowB.of (by simpa [strs] using row_made (w.alloc _) 9 0)
  clear hw
  all_goals rcases Nat.lt_or_ge 0 ne with hz0 | hz0
  all_goals
   first | have hd0 : decide ((0 : Int) < (ne : Int)) = true := decide_eq_true (by omega) | have hd0 : decide ((0 : Int) < (ne : Int)) = false := decide_eq_false (by omega)
   refine wp_loop_once ?_
   go_wp2
   clear hd0 hz0
  all_goals
   go_loopw [5, 9] (fun v i wr => ∃ (k : Nat) (q : Nat) (X : Option Addr) (g : Nat), k ≤ nh1 ∧ k + 1 ≤ q ∧ q ≤ k + 1 ∧ i = .int .i64 q ∧ v = .slice X k g ∧ NewBox wr ((w.heap.size)) [.int .i64 width, .slice E ne ce, .slice R nr cr, .slice H nh ch, .int .i64 z1, .slice A1 m1 c1, .int .i64 z2, .slice A2 m2 c2, .int .i64 h.num, .int .i64 h.size, .string h.root, .int .i64 h.taken, .string h.troot] ∧ RowB wr (w.heap.size + 1) wr.heap.size (.slice X k g, k) (strs (L.take k)) ∧ Below w.heap.size w wr ∧ w1.heap.size ≤ wr.heap.size) (fun _ i _ => nh + nh1 - (intOf i).toNat)
   case atStart => exact ⟨0, 1, _, 0, Nat.zero_le _, Nat.le_refl _, Nat.le_refl _, rfl, rfl, HXb.out, HROW.out, HB.out, Nat.le_refl _⟩
   case round =>
    obtain ⟨k, q, X, g, hk, hq1, hq2, rfl, rfl, hbb, hrw, hbl, hzl⟩ := hrel
    have HBL := lH hbl
    replace HB : Hid (Below w.heap.size w wr) := HBL.out
    replace HXb : Hid (NewBox wr (w.heap.size) [.int .i64 width, .slice E ne ce, .slice R nr cr, .slice H nh ch, .int .i64 z1, .slice A1 m1 c1, .int .i64 z2, .slice A2 m2 c2, .int .i64 h.num, .int .i64 h.size, .string h.root, .int .i64 h.taken, .string h.troot]) := hbb
    clear hxb hfb hkb
    obtain ⟨hkb, hxb, hfb⟩ := HXb.out
    have HOA : Hid (RowB wr (w.heap.size + 1) (wr.heap.size) (.slice X k g, k) (strs (L.take k))) := lH hrw
    have HOH := lH (HH0.out.below HBL.out)
    clear hxe1 hfe1 hke1 HXe1
    have hzz_wr : w.heap.size ≤ wr.heap.size := HB.out.size
    clear hbb hrw hbl HROW
    by_cases hlt : k < nh1
    ·skip
     obtain ⟨b2, off, x, hHe, hb2, hks, hcs⟩ := hd_cells HOH.out (k := q) (by rw [HN1.out]; omega)
     have c0' := hcs.1
     have c1' := hcs.2.1
     have c2' := hcs.2.2.1
     have c3' := hcs.2.2.2.1
     have c4' := hcs.2.2.2.2
     have hix := idxHd H b2 off nh ch q hHe (by omega)
     have HT : Hid (L.take (k + 1) = L.take k ++ [headTextM width x]) := lH (take_succ (by rw [HLD.out, List.getElem?_map, List.getElem?_drop, show 1 + k = q by omega, hks]; rfl))
     have HX := lH (fun W => specHeadText_c width x W (HF1.out x (List.mem_of_getElem? hks)))
     have hI : (q : Int) < nh := by omega
     clear hks hcs hHe
     generalize headTextM width x = lt at *
     generalize headOk width x = lk at *
     clear HOH
     go_wp2_with fail
     have lb : ∀ v : Later wr, v.v.cell? ⟨w.heap.size, 0, none⟩ = some (.int .i64 width) := fun v => (later_cell v _ _ hkb).trans (hxb 0)
     have lb3 : ∀ v : Later wr, v.v.cell? ⟨w.heap.size, 3, none⟩ = some (.slice H nh ch) := fun v => (later_cell v _ _ hkb).trans (hxb 3)
     have le0 : ∀ v : Later wr, v.v.cell? ⟨b2, off + q * 5, none⟩ = some (.int .i64 x.num) := fun v => (later_cell v _ _ hb2).trans c0'
     have le1 : ∀ v : Later wr, v.v.cell? ⟨b2, off + q * 5 + 1, none⟩ = some (.int .i64 x.size) := fun v => (later_cell v _ _ hb2).trans c1'
     have le2 : ∀ v : Later wr, v.v.cell? ⟨b2, off + q * 5 + 2, none⟩ = some (.string x.root) := fun v => (later_cell v _ _ hb2).trans c2'
     have le3 : ∀ v : Later wr, v.v.cell? ⟨b2, off + q * 5 + 3, none⟩ = some (.int .i64 x.taken) := fun v => (later_cell v _ _ hb2).trans c3'
     have le4 : ∀ v : Later wr, v.v.cell? ⟨b2, off + q * 5 + 4, none⟩ = some (.string x.troot) := fun v => (later_cell v _ _ hb2).trans c4'
     refine wp_region_later (by kernel_rfl) (by kernel_rfl) ?_
     repeat (go_big_quiet_step ((first | with_reducible exact later_call (HX.out _))))
     refine wpQuiet_nil ?_
     intro w9 h9
     have hb9 := later_below h9
     clear lb lb3 le0 le1 le2 le3 le4 h9
     have hzw9 : wr.heap.size ≤ w9.heap.size := hb9.size
     have hzzw9 : w.heap.size ≤ w9.heap.size := by omega
     replace HB := lH (below_then HB.out hb9 HB.out.size)
     replace HOA := lH (HOA.out.below hb9)
     replace HXb := lH (HXb.out.below hb9)
     clear hxb hfb hkb
     obtain ⟨hkb, hxb, hfb⟩ := HXb.out
     clear hb9
     clear c0' c1' c2' c3' c4' hix
     go_wp2_with (at_builtin; refine app1Str rfl _ _ rfl (w.heap.size + 1) _ _ _ rfl (HOA.out.1.alloc _) w9.heap.size lt rfl (NewBox.new w9 _ _) (by omega) (by first | omega | (simp; done) | (simp; omega)) ?_)
     intro v2 w2_ hown2 hg2
     obtain ⟨hrb, hon⟩ := rowB_app HOA.out.1 _ hown2 hg2
     obtain ⟨A9, g9, rfl, _, _, _⟩ := ownsRow_slice hown2
     rw [← strs_app, ← HT.out] at hrb
     have hzw2_ : w9.heap.size ≤ w2_.heap.size := hon.size
     have hzzw2_ : w.heap.size ≤ w2_.heap.size := by omega
     replace HB := lH (below_only HB.out hon (by omega) HB.out.size)
     replace HXb := lH (HXb.out.only hon (by first | omega | (simp; omega)))
     clear hxb hfb hkb
     obtain ⟨hkb, hxb, hfb⟩ := HXb.out
     clear HOA
     have HOA : Hid (RowB w2_ (w.heap.size + 1) (w2_.heap.size) (.slice A9 (k + 1) g9, k + 1) (strs (L.take (k + 1)))) := lH hrb
     clear hown2 hg2 hrb hon
     go_wp2
     go_roundw
     case rel => exact ⟨k + 1, q + 1, A9, g9, by omega, by omega, by omega, by go_num, rfl, HXb.out, HOA.out, HB.out, by omega⟩
     case measure => simp [intOf]; omega
    ·skip
     obtain rfl : nh1 = k := by omega
     have HXX := lH HOA.out
     rw [show L.take nh1 = L from List.take_of_length_le (by rw [HLL.out]; exact Nat.le_refl _)] at HXX
     clear HOA
     clear HOH
     have HOA : Hid (RowB wr (w.heap.size + 1) (wr.heap.size) (.slice X nh1 g, nh1) (strs L)) := HXX
     clear HXX
     go_wp2
     all_goals rcases Nat.lt_or_ge 0 nr with hz2 | hz2
     all_goals
      first | have hd2 : decide ((0 : Int) < (nr : Int)) = true := decide_eq_true (by omega) | have hd2 : decide ((0 : Int) < (nr : Int)) = false := decide_eq_false (by omega)
      refine wp_loop_once ?_
      go_wp2_with fail
      clear hd2 hz2
     all_goals
      refine calls_named (fun w2 hw => ?_)
      have hz2 : wr.heap.size + 0 ≤ w2.heap.size := by rw [hw]; first | omega | simp [World.setCell] <;> omega
      have hzz2 : w.heap.size ≤ w2.heap.size := by omega
      have hbn : Below wr.heap.size wr w2 := by rw [hw]; exact (by repeat with_reducible first | exact bR _ | apply bA | apply bD)
      replace HB := lH (below_then HB.out hbn HB.out.size)
      replace HOA := lH (HOA.out.below hbn)
      replace HXb := lH (HXb.out.below hbn)
      clear hxb hfb hkb
      obtain ⟨hkb, hxb, hfb⟩ := HXb.out
      clear hbn
      clear hw
      refine (HFR.out _ _ _ (HOA.out.ownB rfl (by omega) (by omega)).rd.base).mono ?_
      rintro e w3 ⟨rfl, hb⟩
      have hzw3 : w2.heap.size ≤ w3.heap.size := hb.size
      have hzzw3 : w.heap.size ≤ w3.heap.size := by omega
      replace HB := lH (below_then HB.out hb HB.out.size)
      replace HOA := lH (HOA.out.below hb)
      replace HXb := lH (HXb.out.below hb)
      clear hxb hfb hkb
      obtain ⟨hkb, hxb, hfb⟩ := HXb.out
      clear hb
      go_wp2
      go_ret
      exact ⟨rfl, HB.out⟩
 ·skip
  have hLd : fileL width es rs hs 2 = rs.map rcpTextM := rfl
  have hLl : (fileL width es rs hs 2).length = nr := by rw [hLd, List.length_map, hnr]
  have HFR := lH (fun W A c (r : Rd W 0 W.heap.size A (strs (fileL width es rs hs 2))) => specFrames_c A c 0 W.heap.size nr (fileL width es rs hs 2) W r hLl (by have := hfl 2; omega))
  generalize fileL width es rs hs 2 = L at *
  have HLD := lH hLd
  have HLL := lH hLl
  have HB : Hid (Below w.heap.size w w) := Below.refl _ _
  clear hE hR hH hne hnr hnh hch hfe hfr hfh hfl hLd hLl hnx
  change Calls Tryz.prog 162 #[.agg #[.int .i64 width, .slice E ne ce, .slice R nr cr, .slice H nh ch, .int .i64 z1, .slice A1 m1 c1, .int .i64 z2, .slice A2 m2 c2, .int .i64 h.num, .int .i64 h.size, .string h.root, .int .i64 h.taken, .string h.troot], .int .i64 2] w _
  go_enter Tryz.func162, Tryz.ntmps162
  go_wp2
  refine wp_named (fun w1 hw => ?_)
  have hz1 : w.heap.size + 2 ≤ w1.heap.size := by rw [hw]; first | omega | simp [World.setCell] <;> omega
  have hzz1 : w.heap.size ≤ w1.heap.size := by omega
  have hbn : Below w.heap.size w w1 := by rw [hw]; exact (by repeat with_reducible first | exact bR _ | apply bA | apply bD)
  replace HB := lH (below_then HB.out hbn HB.out.size)
  clear hbn
  have HXb : Hid (NewBox w1 (w.heap.size) [.int .i64 width, .slice E ne ce, .slice R nr cr, .slice H nh ch, .int .i64 z1, .slice A1 m1 c1, .int .i64 z2, .slice A2 m2 c2, .int .i64 h.num, .int .i64 h.size, .string h.root, .int .i64 h.taken, .string h.troot]) := by rw [Hid, hw]; exact ⟨by first | omega | (simp [World.setCell]; done) | (simp [World.setCell]; omega), fun o => by rcases o with _ | _ | _ | _ | _ | _ | _ | _ | _ | _ | _ | _ | _ | o <;> go_simp, fun o => by go_simp⟩
  obtain ⟨hkb, hxb, hfb⟩ := HXb.out
  have HXe1 : Hid (NewBox w1 (w.heap.size + 1) []) := by rw [Hid, hw]; exact ⟨by first | omega | (simp [World.setCell]; done) | (simp [World.setCell]; omega), fun o => by rcases o with o <;> go_simp, fun o => by go_simp⟩
  obtain ⟨hke1, hxe1, hfe1⟩ := HXe1.out
  have HROW : Hid (RowB w1 (w.heap.size + 1) w1.heap.size (.slice (some ⟨w.heap.size + 1, 0, none⟩) 0 0, 0) (strs (L.take 0))) := by
   rw [Hid, hw]; exact RowB.of (by simpa [strs] using row_made (w.alloc _) 9 0)
  clear hw
  all_goals rcases Nat.lt_or_ge 0 ne with hz0 | hz0
  all_goals
   first | have hd0 : decide ((0 : Int) < (ne : Int)) = true := decide_eq_true (by omega) | have hd0 : decide ((0 : Int) < (ne : Int)) = false := decide_eq_false (by omega)
   refine wp_loop_once ?_
   go_wp2
   clear hd0 hz0
  all_goals rcases Nat.lt_or_ge 1 nh with hz1 | hz1
  all_goals
   first | have hd1 : decide ((1 : Int) < (nh : Int)) = true := decide_eq_true (by omega) | have hd1 : decide ((1 : Int) < (nh : Int)) = false := decide_eq_false (by omega)
   refine wp_loop_once ?_
   go_wp2
   clear hd1 hz1
  all_goals
   go_loopw [5, 12] (fun v i wr => ∃ (k : Nat) (X : Option Addr) (g : Nat), k ≤ nr ∧ i = .int .i64 k ∧ v = .slice X k g ∧ NewBox wr ((w.heap.size)) [.int .i64 width, .slice E ne ce, .slice R nr cr, .slice H nh ch, .int .i64 z1, .slice A1 m1 c1, .int .i64 z2, .slice A2 m2 c2, .int .i64 h.num, .int .i64 h.size, .string h.root, .int .i64 h.taken, .string h.troot] ∧ RowB wr (w.heap.size + 1) wr.heap.size (.slice X k g, k) (strs (L.take k)) ∧ Below w.heap.size w wr ∧ w1.heap.size ≤ wr.heap.size) (fun _ i _ => nh + nr - (intOf i).toNat)
   case atStart => exact ⟨0, _, 0, Nat.zero_le _, rfl, rfl, HXb.out, HROW.out, HB.out, Nat.le_refl _⟩
   case round =>
    obtain ⟨k, X, g, hk, rfl, rfl, hbb, hrw, hbl, hzl⟩ := hrel
    have HBL := lH hbl
    replace HB : Hid (Below w.heap.size w wr) := HBL.out
    replace HXb : Hid (NewBox wr (w.heap.size) [.int .i64 width, .slice E ne ce, .slice R nr cr, .slice H nh ch, .int .i64 z1, .slice A1 m1 c1, .int .i64 z2, .slice A2 m2 c2, .int .i64 h.num, .int .i64 h.size, .string h.root, .int .i64 h.taken, .string h.troot]) := hbb
    clear hxb hfb hkb
    obtain ⟨hkb, hxb, hfb⟩ := HXb.out
    have HOA : Hid (RowB wr (w.heap.size + 1) (wr.heap.size) (.slice X k g, k) (strs (L.take k))) := lH hrw
    have HOR := lH (HR0.out.below HBL.out)
    clear hxe1 hfe1 hke1 HXe1
    have hzz_wr : w.heap.size ≤ wr.heap.size := HB.out.size
    clear hbb hrw hbl HROW
    by_cases hlt : k < nr
    ·skip
     obtain ⟨b2, off, x, hRe, hb2, hks, hcs⟩ := rcp_cells HOR.out (k := k) (by rw [HN2.out]; omega)
     have c0' := hcs.1
     have c1' := hcs.2.1
     have c2' := hcs.2.2
     have hix := idxRcp R b2 off nr cr k hRe (by omega)
     have HT : Hid (L.take (k + 1) = L.take k ++ [rcpTextM x]) := lH (take_succ (by rw [HLD.out, List.getElem?_map, hks]; rfl))
     have HX := lH (fun W => specReceiptText_c x W (HF2.out x (List.mem_of_getElem? hks)))
     have hI : (k : Int) < nr := by omega
     clear hks hcs hRe
     generalize rcpTextM x = lt at *
     generalize rcpOk x = lk at *
     clear HOR
     go_wp2_with fail
     refine calls_named (fun w2 hw => ?_)
     have hz2 : wr.heap.size + 0 ≤ w2.heap.size := by rw [hw]; first | omega | simp [World.setCell] <;> omega
     have hzz2 : w.heap.size ≤ w2.heap.size := by omega
     have hbn : Below wr.heap.size wr w2 := by rw [hw]; exact (by repeat with_reducible first | exact bR _ | apply bA | apply bD)
     replace HB := lH (below_then HB.out hbn HB.out.size)
     replace HOA := lH (HOA.out.below hbn)
     replace HXb := lH (HXb.out.below hbn)
     clear hxb hfb hkb
     obtain ⟨hkb, hxb, hfb⟩ := HXb.out
     clear hbn
     clear hw
     refine (HX.out _).mono ?_
     rintro e w3 ⟨rfl, hb⟩
     have hzw3 : w2.heap.size ≤ w3.heap.size := hb.size
     have hzzw3 : w.heap.size ≤ w3.heap.size := by omega
     replace HB := lH (below_then HB.out hb HB.out.size)
     replace HOA := lH (HOA.out.below hb)
     replace HXb := lH (HXb.out.below hb)
     clear hxb hfb hkb
     obtain ⟨hkb, hxb, hfb⟩ := HXb.out
     clear hb
     clear c0' c1' c2' hix
     go_wp2_with (at_builtin; refine app1Str rfl _ _ rfl (w.heap.size + 1) _ _ _ rfl (HOA.out.1.alloc _) w3.heap.size lt rfl (NewBox.new w3 _ _) (by omega) (by first | omega | (simp; done) | (simp; omega)) ?_)
     intro v2 w2_ hown2 hg2
     obtain ⟨hrb, hon⟩ := rowB_app HOA.out.1 _ hown2 hg2
     obtain ⟨A9, g9, rfl, _, _, _⟩ := ownsRow_slice hown2
     rw [← strs_app, ← HT.out] at hrb
     have hzw2_ : w3.heap.size ≤ w2_.heap.size := hon.size
     have hzzw2_ : w.heap.size ≤ w2_.heap.size := by omega
     replace HB := lH (below_only HB.out hon (by omega) HB.out.size)
     replace HXb := lH (HXb.out.only hon (by first | omega | (simp; omega)))
     clear hxb hfb hkb
     obtain ⟨hkb, hxb, hfb⟩ := HXb.out
     clear HOA
     have HOA : Hid (RowB w2_ (w.heap.size + 1) (w2_.heap.size) (.slice A9 (k + 1) g9, k + 1) (strs (L.take (k + 1)))) := lH hrb
     clear hown2 hg2 hrb hon
     go_wp2
     go_roundw
     case rel => exact ⟨k + 1, A9, g9, by omega, by go_num, rfl, HXb.out, HOA.out, HB.out, by omega⟩
     case measure => simp [intOf]; omega
    ·skip
     obtain rfl : nr = k := by omega
     have HXX := lH HOA.out
     rw [show L.take nr = L from List.take_of_length_le (by rw [HLL.out]; exact Nat.le_refl _)] at HXX
     clear HOA
     clear HOR
     have HOA : Hid (RowB wr (w.heap.size + 1) (wr.heap.size) (.slice X nr g, nr) (strs L)) := HXX
     clear HXX
     go_wp2_with fail
     all_goals
      refine calls_named (fun w2 hw => ?_)
      have hz2 : wr.heap.size + 0 ≤ w2.heap.size := by rw [hw]; first | omega | simp [World.setCell] <;> omega
      have hzz2 : w.heap.size ≤ w2.heap.size := by omega
      have hbn : Below wr.heap.size wr w2 := by rw [hw]; exact (by repeat with_reducible first | exact bR _ | apply bA | apply bD)
      replace HB := lH (below_then HB.out hbn HB.out.size)
      replace HOA := lH (HOA.out.below hbn)
      replace HXb := lH (HXb.out.below hbn)
      clear hxb hfb hkb
      obtain ⟨hkb, hxb, hfb⟩ := HXb.out
      clear hbn
      clear hw
      refine (HFR.out _ _ _ (HOA.out.ownB rfl (by omega) (by omega)).rd.base).mono ?_
      rintro e w3 ⟨rfl, hb⟩
      have hzw3 : w2.heap.size ≤ w3.heap.size := hb.size
      have hzzw3 : w.heap.size ≤ w3.heap.size := by omega
      replace HB := lH (below_then HB.out hb HB.out.size)
      replace HOA := lH (HOA.out.below hb)
      replace HXb := lH (HXb.out.below hb)
      clear hxb hfb hkb
      obtain ⟨hkb, hxb, hfb⟩ := HXb.out
      clear hb
      go_wp2
      go_ret
      exact ⟨rfl, HB.out⟩
end
end Go.Proofs.YtoccjgcokffkbaaGreat
