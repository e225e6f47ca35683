/- Digest of the reference. -/
import Derived.Test.YtojjjhbiccgjkaaRef8
namespace Go.Proofs.Ytojjjhbiccgjkaa
set_option linter.unusedVariables false
set_option linter.unusedSimpArgs false
open Go.RowKit

set_option maxRecDepth 100000 in
set_option maxHeartbeats 400000 in
theorem specDigest_c (width tag : Int) (t : ByteArray) (w : World) (ht : t.size ≤ maxLen) : Calls Try.prog 101 #[.int .i64 width, .int .i64 tag, .string t] w fun e w' => e = .returned (.tuple #[.string (digM width tag t), .bool (digOk width tag t)]) ∧ Below w.heap.size w w' := by
  unfold maxLen at ht
  have hbad : digOk width tag t = false → (.tuple #[.string (digM width tag t), .bool (digOk width tag t)] : Value) = .tuple #[.string ⟨#[]⟩, .bool false] := fun h => by rw [digM, h]; rfl
  have HBAD := Lib.hid hbad
  clear hbad
  go_enter Try.func101, Try.ntmps101
  go_wp2_with fail
  refine (specStartOf_c tag _).mono ?_
  rintro e w1 ⟨A1, n1, c1, rfl, hb1, hr1⟩
  have HB1 := Lib.hid hb1
  have HR1 := Lib.hid hr1
  clear hb1 hr1
  rcases (show t.size ≤ 4000 ∨ 4000 < t.size by omega) with h3 | h3
  · go_wp2_with fail
    refine (specPadOf_c t.size _ h3).mono ?_
    rintro e w2 ⟨rfl, hb2⟩
    have HB2 := Lib.hid (below_then HB1.out hb2 HB1.out.size)
    have HR2 : Hid (inR tag 0 255 = true → n1 = 8 ∧ Rd w2 0 w2.heap.size A1 (ws (firstW tag))) := fun h => ⟨(HR1.out h).1, ((HR1.out h).2.below hb2).base⟩
    clear hb2 HB1 HR1
    go_wp2_with fail
    refine (l02Width_c width _).mono ?_
    rintro e w3 ⟨rfl, rfl⟩
    rcases hq1 : inR width 1 32 with _ | _
    · have hd : digOk width tag t = false := by rw [digOk, hq1]; rfl
      have HD := Lib.hid (HBAD.out hd)
      go_wp2
      refine bodyPost_ret (v := .tuple #[.string ⟨#[]⟩, .bool false]) (by simp [results, Try.results101, go_sem]) rfl ?_
      exact ⟨by rw [HD.out], HB2.out⟩
    · have HQ1 := Lib.hid hq1
      clear hq1
      rcases hq2 : inR tag 0 255 with _ | _
      · have hd : digOk width tag t = false := by rw [digOk, HQ1.out, hq2]; rfl
        have HD := Lib.hid (HBAD.out hd)
        go_wp2
        refine bodyPost_ret (v := .tuple #[.string ⟨#[]⟩, .bool false]) (by simp [results, Try.results101, go_sem]) rfl ?_
        exact ⟨by rw [HD.out], HB2.out⟩
      · obtain ⟨hn8, hR⟩ := HR2.out hq2
        subst hn8
        have HQ2 := Lib.hid hq2
        clear hq2 HR2
        have hd : digOk width tag t = true := by rw [digOk, HQ1.out, HQ2.out, decide_eq_true h3]; rfl
        obtain ⟨wi, rfl⟩ : ∃ n : Nat, width = n := ⟨width.toNat, by have := inR_true.1 HQ1.out; omega⟩
        have hr := inR_true.1 HQ2.out
        have hwi : wi ≤ 32 := by have := inR_true.1 HQ1.out; omega
        have hm : digM wi tag t = digT wi tag t := by rw [digM, hd]; rfl
        have hv : digT wi tag t = chainT wi (mixText (firstW tag) (t ++ padT t.size) ((t ++ padT t.size).size / 64)) := by rw [digT, Int.toNat_natCast]
        have HV := Lib.hid (hm.trans hv)
        have HD := Lib.hid hd
        have HRR := Lib.hid hR
        clear hd hm hv HBAD hR
        have hpz : (padT t.size).size ≤ 80 := by rw [padT_size]; omega
        have hts : (t ++ padT t.size).size ≤ 5000 := by rw [ByteArray.size_append]; omega
        have hca := fun (W : World) => run_string_add_sum (P := Try.prog) W t (padT t.size) (by omega)
        have hMX := fun W h => l02Mixed_c A1 c1 0 w2.heap.size (firstW tag) (t ++ padT t.size) W (firstW_wds tag) (by omega) h
        have hmw := mixText_w (firstW_wds tag) (t ++ padT t.size) ((t ++ padT t.size).size / 64)
        have HMW := Lib.hid hmw
        have HMX := Lib.hid hMX
        clear hmw hMX
        generalize padT t.size = pd at *
        generalize t ++ pd = tt at *
        go_wp2_with fail
        refine (HMX.out _ HRR.out).mono ?_
        rintro e w4 ⟨A4, c4, rfl, hb4, hr4⟩
        have HB4 := Lib.hid (below_then HB2.out hb4 HB2.out.size)
        have HR4 := Lib.hid hr4
        clear hb4 HB2 HMX HRR hr4
        go_wp2_with fail
        refine (l02First_c wi A4 c4 _ _ _ _ hwi HMW.out HR4.out).mono ?_
        rintro e w5 ⟨rfl, hb5⟩
        have HB5 := Lib.hid (below_then HB4.out hb5 HB4.out.size)
        clear hb5 HB4
        rw [← HV.out]
        go_wp2
        refine bodyPost_ret (v := .tuple #[.string (digM wi tag t), .bool true]) (by simp [results, Try.results101, go_sem]) rfl ?_
        exact ⟨by rw [HD.out], HB5.out⟩
  · have hd : digOk width tag t = false := by rw [digOk, decide_eq_false (by omega), Bool.and_false]
    have HD := Lib.hid (HBAD.out hd)
    go_wp2_with fail
    refine (specPadOf_no t.size _ h3).mono ?_
    rintro e w2 ⟨rfl, hb2⟩
    have HB2 := Lib.hid (below_then HB1.out hb2 HB1.out.size)
    clear hb2 HB1 HR1
    go_wp2_with fail
    refine (l02Width_c width _).mono ?_
    rintro e w3 ⟨rfl, rfl⟩
    generalize inR width 1 32 = q1 at *
    generalize inR tag 0 255 = q2 at *
    cases q1 <;> cases q2 <;> go_wp2 <;> (refine bodyPost_ret (v := .tuple #[.string ⟨#[]⟩, .bool false]) (by simp [results, Try.results101, go_sem]) rfl ?_) <;> exact ⟨by rw [HD.out], HB2.out⟩
end Go.Proofs.Ytojjjhbiccgjkaa
