/- Part 21 of the proof of FnWrites: lemmas and contracts. -/
import Derived.Test.YtoccjgcokffkbaaGreatTw20
import Derived.StillTailTactics
namespace Go.Proofs.YtoccjgcokffkbaaGreat
set_option linter.unusedVariables false
set_option linter.unusedSimpArgs false
set_option maxHeartbeats 20000000
set_option maxRecDepth 100000
section
open Go.RowKit
theorem brkOk_parts {width : Int} {es : List Ent} {rs : List Rcp} {hs : List Hd} {z1 : Int} {l1 : List ByteArray} {z2 : Int} {l2 : List ByteArray} {h : Hd} (hb : brkOk width es rs hs z1 l1 z2 l2 h = true) : aB width es rs hs := by
 rw [brkOk, Bool.and_eq_true] at hb
 exact brkParts_all hb.1
theorem aU.ownB {w : World} {lo hi n c m : Nat} {A : Option Addr} {xs : List Value} (h : aU w lo hi (.slice A n c, m) xs) (hm : m = n) (hh : hi ≤ w.heap.size) (hl : lo ≤ w.heap.size) : Own w lo hi A xs := by
 subst hm
 rcases row_one h.1 hl with rfl | ⟨g, rfl, h1, h2, h3⟩
 ·exact Own.nil
 exact h3.mono h1 (h.2 g rfl) hh
def bu (l : List ByteArray) : List UInt8 := l.flatMap fun t => (bC t).data.toList
def bO (l : List ByteArray) : Nat → Bool
 | 0 => true
 | k + 1 => bO l k && match l[k]? with
   | some t => cB t && decide (((bC t).size : Int) ≤ 300000 - (bu (l.take k)).length)
   | none => false
def cZ (l : List ByteArray) : Bool := decide (l.length ≤ 600) && bO l l.length
def bq (l : List ByteArray) : ByteArray := if cZ l then ⟨(bu l).toArray⟩ else ByteArray.empty
theorem framesW_take {l : List ByteArray} {k : Nat} {t : ByteArray} (h : l[k]? = some t) : bu (l.take (k + 1)) = bu (l.take k) ++ (bC t).data.toList := by
 rw [bH h, bu, List.flatMap_append]; simp [bu]
theorem framesFine_le {l : List ByteArray} : ∀ {n k : Nat}, k ≤ n → bO l n = true → bO l k = true
 | 0, k, hk, h => by
   obtain rfl : k = 0 := by omega
   exact h
 | n + 1, k, hk, h => by
   by_cases e : k = n + 1
   ·subst e; exact h
   rw [bO, Bool.and_eq_true] at h
   exact framesFine_le (by omega) h.1
theorem framesOk_no {l : List ByteArray} {n k : Nat} {t : ByteArray} (hn : l.length = n) (hk : k < n) (ht : l[k]? = some t) (h : (cB t && decide (((bC t).size : Int) ≤ 300000 - (bu (l.take k)).length)) = false) : cZ l = false := by
 rcases hh : cZ l with _ | _
 ·rfl
 rw [cZ, Bool.and_eq_true] at hh
 have h1 := framesFine_le (n := l.length) (k := k + 1) (by omega) hh.2
 rw [bO, ht] at h1
 simp only [h, Bool.and_false] at h1
 cases h1
theorem frameM_pos {t : ByteArray} (h : cB t = true) : 2 ≤ (bC t).size := by
 rw [bC, if_pos h, frameB, ByteArray.size_append, ByteArray.size_append, bz]; omega
theorem frameM_le {t : ByteArray} (h : cB t = true) : (bC t).size ≤ 1040 := by
 have h1 := digM_le 4 4 t
 have h2 := ax.1 h
 rw [bC, if_pos h, frameB, ByteArray.size_append, ByteArray.size_append, bz]; omega
theorem Len_c (B b : Nat) (l : List UInt8) (w : World) (h : IsBld B b l w) : Calls Tryz.prog 152 #[.pointer (some ⟨b, 0, none⟩)] w fun e w' => e = .returned (.int .i64 l.length) ∧ w = w' := by
 obtain ⟨p, hB, v, hbk, hown, hne⟩ : ∃ p, Lib.BuilderAtF 198 5 B b p (Lib.byteCells l) w := by
  rcases h with h | h
  ·exact ⟨_, h⟩
  exact ⟨_, h⟩
 obtain ⟨ao, cap, rfl⟩ : ∃ ao cap, v = .slice ao (Lib.byteCells l).length cap := by
  rcases hown.2 with ⟨hv, h0⟩ | ⟨g, cap, cur, fz, hv, _⟩
  ·exact ⟨none, 0, by rw [hv, h0]⟩
  exact ⟨_, _, hv⟩
 have c1 : w.cell? ⟨b, 1, none⟩ = some (.slice ao l.length cap) := by rw [Lib.cell_of_heap hbk, bys_len]; rfl
 clear hB hbk hown hne h
 go_enter Tryz.func152, Tryz.ntmps152
 go_wp2
 go_ret
 exact ⟨rfl, rfl⟩
theorem implFrames_c (A : Option Addr) (c lo hi n : Nat) (l : List ByteArray) (w : World) (hr : Rd w lo hi A (strs l)) (hn : l.length = n) (hl : n + bulkS l ≤ 1048576) :
  Calls Tryz.prog 95 #[.slice A n c] w fun e w' => e = .returned (.tuple #[.string (bq l), .bool (cZ l)]) ∧ Below w.heap.size w w' := by
 have HR := lH hr.base
 have HN := lH hn
 have HL := lH hl
 have hn2 : n ≤ 1048576 := by omega
 have hbad : cZ l = false → (.tuple #[.string (bq l), .bool (cZ l)] : Value) = .tuple #[.string ⟨#[]⟩, .bool false] := fun h => by rw [bq, h]; rfl
 have HBAD := lH hbad
 clear hr hn hl hbad
 by_cases h6 : n ≤ 600
 ·go_enter Tryz.func95, Tryz.ntmps95
  go_wp2_with fail
  have hb0 := bld_new w
  go_loopw [14] (fun i wx => ∃ k m : Nat, k ≤ n ∧ i = .int .i64 k ∧ m ≤ 300000 ∧ (bu (l.take k)).length = m ∧ bO l k = true ∧ Below w.heap.size w wx ∧ IsBld w.heap.size w.heap.size (bu (l.take k)) wx) (fun i _ => n - (intOf i).toNat)
  case atStart => exact ⟨0, 0, Nat.zero_le _, rfl, Nat.zero_le _, rfl, rfl, (Below.refl _ _).alloc (Nat.le_refl _) _, hb0⟩
  case round =>
   clear hb0; obtain ⟨k, m, hk, rfl, hm3, hm, hfi, hb, hx⟩ := hrel
   have HB := lH hb
   have HX := lH hx
   have HM := lH hm
   have HFI := lH hfi
   clear hb hx hm hfi
   by_cases hlt : k < n
   ·obtain ⟨b, off, t, rfl, hb, hks, hcell⟩ := (HR.out.below HB.out).str (k := k) (by rw [HN.out]; exact hlt)
    have htz := bulkS_get hks
    have ht1 : t.size ≤ 1048576 := by have := HL.out; omega
    have HT := lH (framesW_take hks)
    have HNO := lH (framesOk_no HN.out hlt hks)
    have HFF : Hid (bO l (k + 1) = (bO l k && (cB t && decide (((bC t).size : Int) ≤ 300000 - (bu (l.take k)).length)))) := lH (by rw [bO, hks])
    have HFR := lH (fun W => implFrame_c t W ht1)
    have hI : (k : Int) < n := by omega
    clear hks htz
    go_wp2_with fail
    refine (HFR.out _).mono ?_
    rintro e w1 ⟨rfl, hb1⟩
    have HB1 := lH (aj HB.out hb1 HB.out.size)
    have HX1 : Hid (IsBld w.heap.size w.heap.size (bu (l.take k)) w1) := lH (bld_below HX.out hb1)
    clear hb1 HX
    rcases q1 : cB t with _ | _
    ·have HD := lH (HBAD.out (HNO.out (by rw [q1]; rfl)))
     clear q1; generalize bC t = fr at *; go_wp2
     refine bodyPost_ret (v := .tuple #[.string ⟨#[]⟩, .bool false]) (by simp [results, Tryz.results95, go_sem]) rfl ?_
     exact ⟨by rw [HD.out], HB1.out⟩
    have hfz := frameM_le q1
    rw [q1, HM.out] at HNO HFF
    clear q1; generalize bC t = fr at *
    go_wp2_with fail
    refine (Len_c _ _ _ _ HX1.out).mono ?_
    rintro e w2 ⟨rfl, rfl⟩
    rw [HM.out]
    have E1 : IntKind.i64.wrap (300000 - (m : Int)) = 300000 - m := by rw [IntKind.wrap_i64]; omega
    rcases Nat.lt_or_ge 300000 (fr.size + m) with hbig | hsm
    ·have HD := lH (HBAD.out (HNO.out (by rw [decide_eq_false (by omega)]; rfl)))
     have hd : decide (300000 - (m : Int) < (fr.size : Int)) = true := decide_eq_true (by omega)
     go_wp2
     refine bodyPost_ret (v := .tuple #[.string ⟨#[]⟩, .bool false]) (by simp [results, Tryz.results95, go_sem]) rfl ?_
     exact ⟨by rw [HD.out], HB1.out⟩
    have HFG : Hid (bO l (k + 1) = true) := lH (by rw [HFF.out, HFI.out, decide_eq_true (by omega)]; rfl)
    have hd : decide (300000 - (m : Int) < (fr.size : Int)) = false := decide_eq_false (by omega)
    go_wp2_with fail
    refine (Write_c w.heap.size w.heap.size _ fr _ HX1.out (by rw [HM.out]; omega) HB1.out.size).mono ?_
    rintro e w3 ⟨rfl, hx3, hb3⟩
    rw [← HT.out] at hx3
    have HX3 := lH hx3
    have HB3 : Hid (Below w.heap.size w w3) := HB1.out.trans hb3
    clear hx3 hb3 hd E1; go_wp2
    go_round
    case rel => exact ⟨k + 1, m + fr.size, by omega, by go_num, by omega, by rw [HT.out, List.length_append, HM.out, Array.length_toList]; rfl, HFG.out, HB3.out, HX3.out⟩
    case measure => simp [intOf]; omega
   obtain rfl : k = n := by omega
   have HOK : Hid (cZ l = true) := lH (by rw [cZ, HN.out, HFI.out, decide_eq_true h6]; rfl)
   have HLT : Hid (l.take k = l) := lH (List.take_of_length_le (by rw [HN.out]; exact Nat.le_refl _))
   go_wp2_with fail
   refine (String_c w.heap.size w.heap.size _ _ HX.out HB.out.size).mono ?_
   rintro e w2 ⟨rfl, hb2⟩
   have HB2 : Hid (Below w.heap.size w w2) := HB.out.trans hb2
   clear hb2
   rw [HLT.out]
   go_wp2
   refine bodyPost_ret (v := .tuple #[.string ⟨(bu l).toArray⟩, .bool true]) (by simp [results, Tryz.results95, go_sem]) rfl ?_
   exact ⟨by rw [bq, HOK.out]; rfl, HB2.out⟩
 have HD := lH (HBAD.out (by rw [cZ, HN.out, decide_eq_false h6]; rfl))
 go_enter Tryz.func95, Tryz.ntmps95
 go_wp2
 refine bodyPost_ret (v := .tuple #[.string ⟨#[]⟩, .bool false]) (by simp [results, Tryz.results95, go_sem]) rfl ?_
 exact ⟨by rw [HD.out], Below.refl _ _⟩
theorem specFrames_c (A : Option Addr) (c lo hi n : Nat) (l : List ByteArray) (w : World) (hr : Rd w lo hi A (strs l)) (hn : l.length = n) (hl : n + bulkS l ≤ 1048576) :
  Calls Tryz.prog 195 #[.slice A n c] w fun e w' => e = .returned (.tuple #[.string (bq l), .bool (cZ l)]) ∧ Below w.heap.size w w' := by
 have HR := lH hr.base
 have HN := lH hn
 have HL := lH hl
 have hn2 : n ≤ 1048576 := by omega
 have hrow := dP w 5 0
 have hbl : Below w.heap.size w (w.alloc (.cells #[] 5)) := (Below.refl _ _).alloc (Nat.le_refl _) _
 have HROW := lH hrow
 have HBL := lH hbl
 have hcv := fun (W : World) (s : ByteArray) => Lib.run_convert_string_bytes (P := Tryz.prog) W 9 22 5 s Tryz.underlying9 Tryz.underlying22 Tryz.underlying5
 have hbad : cZ l = false → (.tuple #[.string (bq l), .bool (cZ l)] : Value) = .tuple #[.string ⟨#[]⟩, .bool false] := fun h => by rw [bq, h]; rfl
 have HBAD := lH hbad
 clear hr hn hl hbad hrow hbl
 by_cases h6 : n ≤ 600
 ·go_enter Tryz.func195, Tryz.ntmps195
  go_wp2
  go_loopw [4, 5] (fun v i wx => ∃ k m g c0 : Nat, k ≤ n ∧ i = .int .i64 k ∧ m ≤ 300000 ∧ (bu (l.take k)).length = m ∧ bO l k = true ∧ v = .slice (some ⟨g, 0, none⟩) m c0 ∧ wx.ownsRow w.heap.size 5 1 (.slice (some ⟨g, 0, none⟩) m c0) m (Lib.byteCells (bu (l.take k))) ∧ Below w.heap.size w wx) (fun _ i _ => n - (intOf i).toNat)
  case atStart => exact ⟨0, 0, _, 0, Nat.zero_le _, rfl, Nat.zero_le _, rfl, rfl, rfl, HROW.out, HBL.out⟩
  case round =>
   obtain ⟨k, m, g, c0, hk, rfl, hm3, hm, hfi, rfl, how, hb⟩ := hrel
   have HB := lH hb
   have HOW := lH how
   have HM := lH hm
   have HFI := lH hfi
   clear hb how hm hfi
   by_cases hlt : k < n
   ·obtain ⟨b, off, t, rfl, hb, hks, hcell⟩ := (HR.out.below HB.out).str (k := k) (by rw [HN.out]; exact hlt)
    have htz := bulkS_get hks
    have ht1 : t.size ≤ 1048576 := by have := HL.out; omega
    have HT := lH (framesW_take hks)
    have HNO := lH (framesOk_no HN.out hlt hks)
    have HFF : Hid (bO l (k + 1) = (bO l k && (cB t && decide (((bC t).size : Int) ≤ 300000 - (bu (l.take k)).length)))) := lH (by rw [bO, hks])
    have HFR := lH (fun W => specFrame_c t W ht1)
    have hI : (k : Int) < n := by omega
    clear hks htz
    go_wp2_with fail
    refine (HFR.out _).mono ?_
    rintro e w1 ⟨rfl, hb1⟩
    have HB1 := lH (aj HB.out hb1 HB.out.size)
    have HO1 := lH (dO HOW.out hb1)
    clear hb1 HOW
    rcases q1 : cB t with _ | _
    ·have HD := lH (HBAD.out (HNO.out (by rw [q1]; rfl)))
     clear q1; generalize bC t = fr at *; go_wp2
     refine bodyPost_ret (v := .tuple #[.string ⟨#[]⟩, .bool false]) (by simp [results, Tryz.results195, go_sem]) rfl ?_
     exact ⟨by rw [HD.out], HB1.out⟩
    have hfz := frameM_le q1
    have hfp := frameM_pos q1
    rw [q1, HM.out] at HNO HFF
    clear q1; generalize bC t = fr at *
    have E1 : IntKind.i64.wrap (300000 - (m : Int)) = 300000 - m := by rw [IntKind.wrap_i64]; omega
    rcases Nat.lt_or_ge 300000 (fr.size + m) with hbig | hsm
    ·have HD := lH (HBAD.out (HNO.out (by rw [decide_eq_false (by omega)]; rfl)))
     have hd : decide (300000 - (m : Int) < (fr.size : Int)) = true := decide_eq_true (by omega)
     go_wp2
     refine bodyPost_ret (v := .tuple #[.string ⟨#[]⟩, .bool false]) (by simp [results, Tryz.results195, go_sem]) rfl ?_
     exact ⟨by rw [HD.out], HB1.out⟩
    have HFG : Hid (bO l (k + 1) = true) := lH (by rw [HFF.out, HFI.out, decide_eq_true (by omega)]; rfl)
    have hd : decide (300000 - (m : Int) < (fr.size : Int)) = false := decide_eq_false (by omega)
    have HO2 := lH (dO HO1.out (bytes_below w1 5 fr))
    have HB2 := lH (aj HB1.out (bytes_below w1 5 fr) HB1.out.size)
    have HRD := lH (bytes_rd w1 5 fr)
    go_wp2_with (at_builtin; refine appBy rfl _ _ rfl w.heap.size _ _ _ rfl HO2.out _ fr.size _ 0 _ fr.data.toList rfl (by rw [Array.length_toList]; rfl) HRD.out (fun h => by cases h) (by omega) HB2.out.size ?_)
    intro v2 w2 hown2 hg2
    have hon := bJ HO2.out hg2
    have HB3 := lH (au HB2.out hon (Nat.le_refl _) HB2.out.size)
    obtain ⟨g2, c2, rfl⟩ := row_form hown2 (by omega)
    rw [← bys_app, ← HT.out] at hown2
    have HO3 := lH hown2
    clear hown2 hg2 hon HO2 HO1 hd E1; go_wp2
    go_roundw
    case rel => exact ⟨k + 1, m + fr.size, g2, c2, by omega, by go_num, by omega, by rw [HT.out, List.length_append, HM.out, Array.length_toList]; rfl, HFG.out, rfl, HO3.out, HB3.out⟩
    case measure => simp [intOf]; omega
   obtain rfl : k = n := by omega
   have HOK : Hid (cZ l = true) := lH (by rw [cZ, HN.out, HFI.out, decide_eq_true h6]; rfl)
   have HLT : l.take k = l := List.take_of_length_le (by rw [HN.out]; exact Nat.le_refl _)
   rw [HLT] at HOW HM
   have hr := (Own.bn HOW.out).rd
   have hcb := run_convert_bytes_back (P := Tryz.prog) wr 22 9 5 ⟨g, 0, none⟩ c0 (bu l) Tryz.underlying22 Tryz.underlying5 Tryz.underlying9 (fun j hj => by
    have hne : Lib.byteCells (bu l) ≠ [] := by
     intro e
     have e2 := bys_len (bu l)
     rw [e] at e2
     simp at e2
     omega
    obtain ⟨b, off, h0, _, _, _, hcs⟩ := hr hne
    cases h0
    have h := hcs j (.int .u8 ((bu l)[j].toNat : Int)) (by simp [Lib.byteCells, hj])
    rwa [Addr.add_lit])
   rw [HM.out] at hcb
   clear hr hcv HLT; go_wp2
   refine bodyPost_ret (v := .tuple #[.string ⟨(bu l).toArray⟩, .bool true]) (by simp [results, Tryz.results195, go_sem]) rfl ?_
   exact ⟨by rw [bq, HOK.out]; rfl, HB.out⟩
 have HD := lH (HBAD.out (by rw [cZ, HN.out, decide_eq_false h6]; rfl))
 go_enter Tryz.func195, Tryz.ntmps195
 go_wp2
 refine bodyPost_ret (v := .tuple #[.string ⟨#[]⟩, .bool false]) (by simp [results, Tryz.results195, go_sem]) rfl ?_
 exact ⟨by rw [HD.out], Below.refl _ _⟩
end
end Go.Proofs.YtoccjgcokffkbaaGreat
