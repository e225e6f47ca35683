/- The Digest of the program. -/
import Derived.Test.YtojjjhbiccgjkaaText
namespace Go.Proofs.Ytojjjhbiccgjkaa
set_option linter.unusedVariables false
set_option linter.unusedSimpArgs false
open Go.RowKit

theorem textT_size (l : List Int) : (textT l).size = 4 * l.length := by
  show (textW l).toArray.size = _
  rw [List.size_toArray, textW_len]
def chainT (width : Nat) (l : List Int) : ByteArray := (textT l).extract 0 width
def digT (width tag : Int) (t : ByteArray) : ByteArray := chainT width.toNat (mixText (firstW tag) (t ++ padT t.size) ((t ++ padT t.size).size / 64))
def digOk (width tag : Int) (t : ByteArray) : Bool := inR width 1 32 && inR tag 0 255 && decide (t.size ≤ 4000)
def digM (width tag : Int) (t : ByteArray) : ByteArray := if digOk width tag t then digT width tag t else ByteArray.empty
theorem NewBox.rdW {w : World} {k : Nat} {l : List Int} (h : NewBox w k (ws l)) : Rd w 0 w.heap.size (some ⟨k, 0, none⟩) (ws l) := fun _ =>
  ⟨k, 0, rfl, Nat.zero_le _, h.1, Nat.le_refl _, fun j u hu => by rw [Nat.zero_add]; exact h.cell hu⟩
theorem fw_w (tag : Int) (i : Int) : 0 ≤ fw tag i ∧ fw tag i < 4294967296 := by unfold fw; omega
theorem firstW_wds (tag : Int) : Wds 8 (firstW tag) := ⟨firstW_len tag, fun x hx => by
  obtain ⟨i, _, rfl⟩ := List.mem_map.1 hx
  exact fw_w _ _⟩
theorem padT_size (n : Nat) : (padT n).size = 1 + (119 - n % 64) % 64 + 4 + 4 := by
  rw [padT, ByteArray.size_append, ByteArray.size_append, ByteArray.size_append, zerosT_size, wordText_size, wordText_size]; rfl

set_option maxRecDepth 100000 in
set_option maxHeartbeats 400000 in
theorem chainText_c (width : Nat) (l : List Int) (w : World) (hw : width ≤ 32) (hl : Wds 8 l) : Calls Try.prog 163 #[.int .i64 width, .agg (ws l).toArray] w fun e w' => e = .returned (.string (chainT width l)) ∧ Below w.heap.size w w' := by
  have hM : ∀ W, W = w.alloc (.cells (ws l).toArray 171) → NewBox W w.heap.size (ws l) ∧ Below w.heap.size w W := by
    rintro W rfl
    exact ⟨NewBox.new w _ _, (Below.refl _ _).alloc (Nat.le_refl _) _⟩
  have HM := Lib.hid hM
  clear hM
  obtain ⟨a0, a1, a2, a3, a4, a5, a6, a7, es⟩ := list8 hl.1
  have hsz : (textT l).size = 32 := by rw [textT_size, hl.1]
  have hC : chainT width l = (textT l).extract 0 width := rfl
  have HC := Lib.hid hC
  have HL := Lib.hid hl
  have HES := Lib.hid es
  have hsz2 : ((textT l).size : Int) = 32 := by omega
  generalize htx : textT l = tx at *
  have HTXE := Lib.hid htx
  have hw2 : (width : Int) ≤ 32 := by omega
  go_enter Try.func163, Try.ntmps163
  simp only [es, ws, List.map_cons, List.map_nil]
  clear hl es hC htx
  go_wp2_with fail
  refine calls_named fun W hW => ?_
  obtain ⟨hN, hB⟩ := HM.out W (by rw [hW, HES.out]; rfl)
  clear hW
  refine (TextOf_c (some ⟨w.heap.size, 0, none⟩) 8 _ _ 8 l W hN.rdW HL.out.1 (by omega) HL.out.2).mono ?_
  rintro e w1 ⟨rfl, hb1⟩
  rw [HTXE.out]
  have HB := Lib.hid (below_then hB hb1 hB.size)
  clear hN hB hb1
  go_wp2
  go_ret
  exact ⟨by rw [← HES.out, HC.out]; rfl, HB.out⟩
set_option maxRecDepth 100000 in
set_option maxHeartbeats 400000 in
theorem implDigest_c (width tag : Int) (t : ByteArray) (w : World) (ht : t.size ≤ maxLen) : Calls Try.prog 104 #[.int .i64 width, .int .i64 tag, .string t] w fun e w' => e = .returned (.tuple #[.string (digM width tag t), .bool (digOk width tag t)]) ∧ Below w.heap.size w w' := by
  unfold maxLen at ht
  have hbad : digOk width tag t = false → (.tuple #[.string (digM width tag t), .bool (digOk width tag t)] : Value) = .tuple #[.string ⟨#[]⟩, .bool false] := fun h => by rw [digM, h]; rfl
  have HBAD := Lib.hid hbad
  clear hbad
  go_enter Try.func104, Try.ntmps104
  go_wp2_with fail
  refine (isWidth_c width _).mono ?_
  rintro e w1 ⟨rfl, rfl⟩
  rcases hq1 : inR width 1 32 with _ | _
  · have hd : digOk width tag t = false := by rw [digOk, hq1]; rfl
    have HD := Lib.hid (HBAD.out hd)
    go_wp2
    refine bodyPost_ret (v := .tuple #[.string ⟨#[]⟩, .bool false]) (by simp [results, Try.results104, go_sem]) rfl ?_
    exact ⟨by rw [HD.out], Below.refl _ _⟩
  · have HQ1 := Lib.hid hq1
    clear hq1
    go_wp2_with fail
    refine (isTag_c tag _).mono ?_
    rintro e w1 ⟨rfl, rfl⟩
    rcases hq2 : inR tag 0 255 with _ | _
    · have hd : digOk width tag t = false := by rw [digOk, HQ1.out, hq2]; rfl
      have HD := Lib.hid (HBAD.out hd)
      go_wp2
      refine bodyPost_ret (v := .tuple #[.string ⟨#[]⟩, .bool false]) (by simp [results, Try.results104, go_sem]) rfl ?_
      exact ⟨by rw [HD.out], Below.refl _ _⟩
    · have HQ2 := Lib.hid hq2
      clear hq2
      rcases (show t.size ≤ 4000 ∨ 4000 < t.size by omega) with h3 | h3
      · have hd : digOk width tag t = true := by rw [digOk, HQ1.out, HQ2.out, decide_eq_true h3]; rfl
        obtain ⟨wi, rfl⟩ : ∃ n : Nat, width = n := ⟨width.toNat, by have := inR_true.1 HQ1.out; omega⟩
        have hr := inR_true.1 HQ2.out
        have hwi : wi ≤ 32 := by have := inR_true.1 HQ1.out; omega
        have hm : digM wi tag t = digT wi tag t := by rw [digM, hd]; rfl
        have hv : digT wi tag t = chainT wi (mixText (firstW tag) (t ++ padT t.size) ((t ++ padT t.size).size / 64)) := by rw [digT, Int.toNat_natCast]
        have HV := Lib.hid (hm.trans hv)
        have HD := Lib.hid hd
        clear hd hm hv HBAD
        go_wp2_with fail
        refine (firstState_c tag _ hr.1 hr.2).mono ?_
        rintro e w1 ⟨rfl, hb1⟩
        have HB1 := Lib.hid hb1
        clear hb1
        go_wp2_with fail
        refine (padOf_c t.size _ h3).mono ?_
        rintro e w2 ⟨rfl, hb2⟩
        have HB2 := Lib.hid (below_then HB1.out hb2 HB1.out.size)
        have hpz : (padT t.size).size ≤ 80 := by rw [padT_size]; omega
        have hts : (t ++ padT t.size).size ≤ 5000 := by rw [ByteArray.size_append]; omega
        have hca := fun (W : World) => run_string_add_sum (P := Try.prog) W t (padT t.size) (by omega)
        have hMX := fun W => mixAll_c (firstW tag) (t ++ padT t.size) W (firstW_wds tag) (by omega)
        have hmw := mixText_w (firstW_wds tag) (t ++ padT t.size) ((t ++ padT t.size).size / 64)
        have HMW := Lib.hid hmw
        have HMX := Lib.hid hMX
        clear hb2 HB1 hmw hMX
        generalize padT t.size = pd at *
        generalize t ++ pd = tt at *
        go_wp2_with fail
        refine (HMX.out _).mono ?_
        rintro e w3 ⟨rfl, hb3⟩
        have HB3 := Lib.hid (below_then HB2.out hb3 HB2.out.size)
        clear hb3 HB2
        go_wp2_with fail
        refine (chainText_c wi _ _ hwi HMW.out).mono ?_
        rintro e w4 ⟨rfl, hb4⟩
        have HB4 := Lib.hid (below_then HB3.out hb4 HB3.out.size)
        clear hb4 HB3
        rw [← HV.out]
        go_wp2
        refine bodyPost_ret (v := .tuple #[.string (digM wi tag t), .bool true]) (by simp [results, Try.results104, go_sem]) rfl ?_
        exact ⟨by rw [HD.out], HB4.out⟩
      · have hd : digOk width tag t = false := by rw [digOk, decide_eq_false (by omega), Bool.and_false]
        have HD := Lib.hid (HBAD.out hd)
        go_wp2
        refine bodyPost_ret (v := .tuple #[.string ⟨#[]⟩, .bool false]) (by simp [results, Try.results104, go_sem]) rfl ?_
        exact ⟨by rw [HD.out], Below.refl _ _⟩
end Go.Proofs.Ytojjjhbiccgjkaa
