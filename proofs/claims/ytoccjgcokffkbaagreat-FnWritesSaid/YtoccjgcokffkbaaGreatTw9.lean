/- Part 9 of the proof of FnWrites: lemmas and contracts. -/
import Derived.Test.YtoccjgcokffkbaaGreatTw8
import Derived.Maps.OwnOps
import Derived.Maps.Views
namespace Go.Proofs.YtoccjgcokffkbaaGreat
set_option linter.unusedVariables false
set_option linter.unusedSimpArgs false
set_option maxHeartbeats 20000000
set_option maxRecDepth 100000
section
open Go.RowKit
theorem entryOk_all {e : Ent} (h : aY e = true) : e.topic.size ≤ 20 ∧ 0 ≤ e.index ∧ e.index ≤ 511 ∧ 0 ≤ e.time ∧ e.time ≤ 1000000000 ∧ e.key.size ≤ 40 ∧ e.body.size ≤ 400 := by
 rw [aY, Bool.and_eq_true, Bool.and_eq_true, dK, Bool.and_eq_true, Bool.and_eq_true, bW, Bool.and_eq_true] at h
 have h1 := ax.1 h.1.1
 have h2 := ax.1 h.2.1
 have h3 := ax.1 h.2.2.1
 have h4 := of_decide_eq_true h.2.2.2.1
 have h5 := of_decide_eq_true h.2.2.2.2
 omega
def leafTextB (e : Ent) : ByteArray := ⟨#[69]⟩ ++ dD e.topic ++ dn e.index ++ bi e.time ++ dD e.key ++ dn e.body.size ++ e.body
def aI (e : Ent) : ByteArray := if aY e then leafTextB e else ByteArray.empty
theorem dI (t : ByteArray) : (dD t).size = 1 + t.size := by rw [dD, ByteArray.size_append, octB_size]
theorem dJ (e : Ent) : (aI e).size ≤ 480 := by
 by_cases h : aY e = true
 ·have := entryOk_all h
  rw [aI, if_pos h, leafTextB]
  simp only [ByteArray.size_append, bz, dI, dH]
  rw [show ((⟨#[69]⟩ : ByteArray)).size = 1 from rfl]
  omega
 rw [aI, if_neg h]; exact Nat.zero_le _
theorem numUp_4 {n : Int} (h0 : 0 ≤ n) (h : n < 4294967296) : numUp n 4 = bi n := by
 show octB (n / 256 / 256 / 256) ++ (octB (n / 256 / 256) ++ (octB (n / 256) ++ (octB n ++ ByteArray.empty))) = bi n
 rw [ByteArray.append_empty]
 have e1 : n / 256 / 256 / 256 % 256 = n / 16777216 := by omega
 have e2 : n / 256 / 256 % 256 = n / 65536 % 256 := by omega
 show strOfNums [n / 256 / 256 / 256 % 256] ++ (strOfNums [n / 256 / 256 % 256] ++ (strOfNums [n / 256 % 256] ++ strOfNums [n % 256])) = strOfNums [n / 16777216, n / 65536 % 256, n / 256 % 256, n % 256]
 rw [e1, e2]
 rfl
theorem l03Number4_c {n : Int} (w : World) (h0 : 0 ≤ n) (h : n ≤ 1000000000) : Calls Tryz.prog 110 #[.int .i64 n, .int .i64 4] w fun e w' => e = .returned (.string (bi n)) ∧ Below w.heap.size w w' := by
 have := l03Number_c n 4 w h0 (by omega) (by omega)
 rwa [numUp_4 h0 (by omega)] at this
def cz (width : Int) (e : Ent) : ByteArray := if aY e = true then eP width 0 (aI e) else ⟨#[]⟩
def fu (width : Int) (e : Ent) : Bool := aY e && bN width 0 (aI e)
theorem implLeafText_c (e : Ent) (w : World) (hf : e.fits) : Calls Tryz.prog 137 #[.agg #[.string e.topic, .int .i64 e.index, .int .i64 e.time, .string e.key, .string e.body]] w fun r w' => r = .returned (.tuple #[.string (aI e), .bool (aY e)]) ∧ Below w.heap.size w w' := by
 have HO := lH (fun W => implEntryOk_c e W hf)
 rcases hq : aY e with _ | _
 ·have HM : Hid (aI e = ⟨#[]⟩) := by rw [Hid, aI, hq]; rfl
  rw [hq] at HO
  clear hq
  have HB : Hid (Below w.heap.size w w) := Below.refl _ _
  go_enter Tryz.func137, Tryz.ntmps137
  go_wp2_with fail
  refine af (fun w1 hw => ?_)
  have hz1 : w.heap.size + 1 ≤ w1.heap.size := zA
  have hbn : Below w.heap.size w w1 := zB
  replace HB := bT HB hbn; clear hbn
  have HXh : Hid (aa w1 (w.heap.size) [.string e.topic, .int .i64 e.index, .int .i64 e.time, .string e.key, .string e.body]) := zG5
  obtain ⟨hkh, hxh, hfh⟩ := HXh.out; clear hw
  refine (HO.out _).mono ?_
  rintro e w2 ⟨rfl, hb⟩
  have hzw2 : w1.heap.size ≤ w2.heap.size := hb.size
  replace HB := bT HB hb; replace HXh := nB HXh hb; clear hxh hfh hkh; obtain ⟨hkh, hxh, hfh⟩ := HXh.out; clear hb; go_wp2
  refine bodyPost_ret (v := .tuple #[.string ⟨#[]⟩, .bool false]) (by simp [results, Tryz.results137, go_sem]) rfl ?_
  exact ⟨by rw [HM.out], HB.out⟩
 obtain ⟨g1, g2, g3, g4, g5, g6, g7⟩ := entryOk_all hq
 have HM : Hid (aI e = ⟨#[69]⟩ ++ dD e.topic ++ dn e.index ++ bi e.time ++ dD e.key ++ dn e.body.size ++ e.body) := by rw [Hid, aI, hq]; rfl
 rw [hq] at HO
 have n1 := lH (fun W => short_c e.topic W (by omega))
 have n2 := lH (fun W => pair_c e.index W g2 (by omega))
 have n3 := lH (fun W => ib e.time W (by omega))
 have n4 := lH (fun W => short_c e.key W (by omega))
 have n5 := lH (fun W => pair_c e.body.size W (by omega) (by omega))
 have e1 := dI e.topic
 have e2 := bz e.index
 have e3 := dH e.time
 have e4 := dI e.key
 have e5 := bz e.body.size
 have e0 : ((⟨#[69]⟩ : ByteArray)).size = 1 := rfl
 have E1 : IntKind.u32.wrap e.time = e.time := by rw [IntKind.wrap_u32]; omega
 clear hq hf
 generalize dD e.topic = p1 at *
 generalize dn e.index = p2 at *
 generalize bi e.time = p3 at *
 generalize dD e.key = p4 at *
 generalize dn e.body.size = p5 at *
 obtain ⟨s1, hs1⟩ : ∃ s, s = ⟨#[69]⟩ ++ p1 := ⟨_, rfl⟩
 have c1 := fun W : World => run_string_add_sum (P := Tryz.prog) W ⟨#[69]⟩ p1 (by omega)
 have z1 : s1.size ≤ 22 := by rw [hs1, ByteArray.size_append]; omega
 rw [← hs1] at c1
 have HS1 := lH hs1
 clear hs1
 obtain ⟨s2, hs2⟩ : ∃ s, s = s1 ++ p2 := ⟨_, rfl⟩
 have c2 := fun W : World => run_string_add_sum (P := Tryz.prog) W s1 p2 (by omega)
 have z2 : s2.size ≤ 24 := by rw [hs2, ByteArray.size_append]; omega
 rw [← hs2] at c2
 have HS2 := lH hs2
 clear hs2
 obtain ⟨s3, hs3⟩ : ∃ s, s = s2 ++ p3 := ⟨_, rfl⟩
 have c3 := fun W : World => run_string_add_sum (P := Tryz.prog) W s2 p3 (by omega)
 have z3 : s3.size ≤ 28 := by rw [hs3, ByteArray.size_append]; omega
 rw [← hs3] at c3
 have HS3 := lH hs3
 clear hs3
 obtain ⟨s4, hs4⟩ : ∃ s, s = s3 ++ p4 := ⟨_, rfl⟩
 have c4 := fun W : World => run_string_add_sum (P := Tryz.prog) W s3 p4 (by omega)
 have z4 : s4.size ≤ 80 := by rw [hs4, ByteArray.size_append]; omega
 rw [← hs4] at c4
 have HS4 := lH hs4
 clear hs4
 obtain ⟨s5, hs5⟩ : ∃ s, s = s4 ++ p5 := ⟨_, rfl⟩
 have c5 := fun W : World => run_string_add_sum (P := Tryz.prog) W s4 p5 (by omega)
 have z5 : s5.size ≤ 90 := by rw [hs5, ByteArray.size_append]; omega
 rw [← hs5] at c5
 have HS5 := lH hs5
 clear hs5
 obtain ⟨s6, hs6⟩ : ∃ s, s = s5 ++ e.body := ⟨_, rfl⟩
 have c6 := fun W : World => run_string_add_sum (P := Tryz.prog) W s5 e.body (by omega)
 have z6 : s6.size ≤ 500 := by rw [hs6, ByteArray.size_append]; omega
 rw [← hs6] at c6
 have HS6 := lH hs6
 clear hs6
 have HB : Hid (Below w.heap.size w w) := Below.refl _ _
 go_enter Tryz.func137, Tryz.ntmps137
 go_wp2_with fail
 refine af (fun w1 hw => ?_)
 have hz1 : w.heap.size + 1 ≤ w1.heap.size := zA
 have hbn : Below w.heap.size w w1 := zB
 replace HB := bT HB hbn
 clear hbn
 have HXh : Hid (aa w1 (w.heap.size) [.string e.topic, .int .i64 e.index, .int .i64 e.time, .string e.key, .string e.body]) := zG5
 obtain ⟨hkh, hxh, hfh⟩ := HXh.out
 clear hw
 refine (HO.out _).mono ?_
 rintro e w2 ⟨rfl, hb⟩
 have hzw2 : w1.heap.size ≤ w2.heap.size := hb.size
 replace HB := bT HB hb
 replace HXh := nB HXh hb
 clear hxh hfh hkh
 obtain ⟨hkh, hxh, hfh⟩ := HXh.out
 clear hb
 have l0 : ∀ v : Later w2, v.v.cell? ⟨w.heap.size, 0, none⟩ = some (.string e.topic) := fun v => (ai v _ _ hkh).trans (hxh 0)
 have l1 : ∀ v : Later w2, v.v.cell? ⟨w.heap.size, 1, none⟩ = some (.int .i64 e.index) := fun v => (ai v _ _ hkh).trans (hxh 1)
 have l2 : ∀ v : Later w2, v.v.cell? ⟨w.heap.size, 2, none⟩ = some (.int .i64 e.time) := fun v => (ai v _ _ hkh).trans (hxh 2)
 go_wp2_with fail
 refine aA (by kernel_rfl) (by kernel_rfl) ?_
 repeat (go_big_quiet_step ((first | with_reducible exact aD (n1.out _) | with_reducible exact aD (n2.out _) | with_reducible exact aD (n3.out _))))
 refine wpQuiet_nil ?_
 intro w9 h9
 have hb9 := aO h9
 clear l0 l1 l2 h9 c1 c2 c3
 have hzw9 : w2.heap.size ≤ w9.heap.size := hb9.size
 replace HB := bT HB hb9
 replace HXh := nB HXh hb9
 clear hxh hfh hkh
 obtain ⟨hkh, hxh, hfh⟩ := HXh.out
 clear hb9
 have l3 : ∀ v : Later w9, v.v.cell? ⟨w.heap.size, 3, none⟩ = some (.string e.key) := fun v => (ai v _ _ hkh).trans (hxh 3)
 have l4 : ∀ v : Later w9, v.v.cell? ⟨w.heap.size, 4, none⟩ = some (.string e.body) := fun v => (ai v _ _ hkh).trans (hxh 4)
 go_wp2_with fail
 refine aA (by kernel_rfl) (by kernel_rfl) ?_
 repeat (go_big_quiet_step ((first | with_reducible exact aD (n4.out _) | with_reducible exact aD (n5.out _))))
 refine wpQuiet_nil ?_
 intro w8 h8
 have hb8 := aO h8
 have HB8 := lH (aj HB.out hb8 HB.out.size)
 clear l3 l4 h8 hb8
 go_wp2
 refine bodyPost_ret (v := .tuple #[.string s6, .bool true]) (by simp [results, Tryz.results137, go_sem]) rfl ?_
 exact ⟨by rw [HM.out, HS6.out, HS5.out, HS4.out, HS3.out, HS2.out, HS1.out], HB8.out⟩
theorem specLeafText_c (e : Ent) (w : World) (hf : e.fits) : Calls Tryz.prog 108 #[.agg #[.string e.topic, .int .i64 e.index, .int .i64 e.time, .string e.key, .string e.body]] w fun r w' => r = .returned (.tuple #[.string (aI e), .bool (aY e)]) ∧ Below w.heap.size w w' := by
 have HO := lH (fun W => specEntryOk_c e W hf)
 rcases hq : aY e with _ | _
 ·have HM : Hid (aI e = ⟨#[]⟩) := by rw [Hid, aI, hq]; rfl
  rw [hq] at HO
  clear hq
  have HB : Hid (Below w.heap.size w w) := Below.refl _ _
  go_enter Tryz.func108, Tryz.ntmps108
  go_wp2_with fail
  refine af (fun w1 hw => ?_)
  have hz1 : w.heap.size + 1 ≤ w1.heap.size := zA
  have hbn : Below w.heap.size w w1 := zB
  replace HB := bT HB hbn; clear hbn
  have HXh : Hid (aa w1 (w.heap.size) [.string e.topic, .int .i64 e.index, .int .i64 e.time, .string e.key, .string e.body]) := zG5
  obtain ⟨hkh, hxh, hfh⟩ := HXh.out; clear hw
  refine (HO.out _).mono ?_
  rintro e w2 ⟨rfl, hb⟩
  have hzw2 : w1.heap.size ≤ w2.heap.size := hb.size
  replace HB := bT HB hb; replace HXh := nB HXh hb; clear hxh hfh hkh; obtain ⟨hkh, hxh, hfh⟩ := HXh.out; clear hb; go_wp2
  refine bodyPost_ret (v := .tuple #[.string ⟨#[]⟩, .bool false]) (by simp [results, Tryz.results108, go_sem]) rfl ?_
  exact ⟨by rw [HM.out], HB.out⟩
 obtain ⟨g1, g2, g3, g4, g5, g6, g7⟩ := entryOk_all hq
 have HM : Hid (aI e = ⟨#[69]⟩ ++ dD e.topic ++ dn e.index ++ bi e.time ++ dD e.key ++ dn e.body.size ++ e.body) := by rw [Hid, aI, hq]; rfl
 rw [hq] at HO
 have n1 := lH (fun W => l03Short_c e.topic W (by omega))
 have n2 := lH (fun W => fK (n := e.index) W g2 (by omega))
 have n3 := lH (fun W => l03Number4_c (n := e.time) W g4 g5)
 have n4 := lH (fun W => l03Short_c e.key W (by omega))
 have n5 := lH (fun W => fK (n := (e.body.size : Nat)) W (by omega) (by omega))
 have e1 := dI e.topic
 have e2 := bz e.index
 have e3 := dH e.time
 have e4 := dI e.key
 have e5 := bz e.body.size
 have e0 : ((⟨#[69]⟩ : ByteArray)).size = 1 := rfl
 clear hq hf
 generalize dD e.topic = p1 at *
 generalize dn e.index = p2 at *
 generalize bi e.time = p3 at *
 generalize dD e.key = p4 at *
 generalize dn e.body.size = p5 at *
 obtain ⟨s1, hs1⟩ : ∃ s, s = ⟨#[69]⟩ ++ p1 := ⟨_, rfl⟩
 have c1 := fun W : World => run_string_add_sum (P := Tryz.prog) W ⟨#[69]⟩ p1 (by omega)
 have z1 : s1.size ≤ 22 := by rw [hs1, ByteArray.size_append]; omega
 rw [← hs1] at c1
 have HS1 := lH hs1
 clear hs1
 obtain ⟨s2, hs2⟩ : ∃ s, s = s1 ++ p2 := ⟨_, rfl⟩
 have c2 := fun W : World => run_string_add_sum (P := Tryz.prog) W s1 p2 (by omega)
 have z2 : s2.size ≤ 24 := by rw [hs2, ByteArray.size_append]; omega
 rw [← hs2] at c2
 have HS2 := lH hs2
 clear hs2
 obtain ⟨s3, hs3⟩ : ∃ s, s = s2 ++ p3 := ⟨_, rfl⟩
 have c3 := fun W : World => run_string_add_sum (P := Tryz.prog) W s2 p3 (by omega)
 have z3 : s3.size ≤ 28 := by rw [hs3, ByteArray.size_append]; omega
 rw [← hs3] at c3
 have HS3 := lH hs3
 clear hs3
 obtain ⟨s4, hs4⟩ : ∃ s, s = s3 ++ p4 := ⟨_, rfl⟩
 have c4 := fun W : World => run_string_add_sum (P := Tryz.prog) W s3 p4 (by omega)
 have z4 : s4.size ≤ 80 := by rw [hs4, ByteArray.size_append]; omega
 rw [← hs4] at c4
 have HS4 := lH hs4
 clear hs4
 obtain ⟨s5, hs5⟩ : ∃ s, s = s4 ++ p5 := ⟨_, rfl⟩
 have c5 := fun W : World => run_string_add_sum (P := Tryz.prog) W s4 p5 (by omega)
 have z5 : s5.size ≤ 90 := by rw [hs5, ByteArray.size_append]; omega
 rw [← hs5] at c5
 have HS5 := lH hs5
 clear hs5
 obtain ⟨s6, hs6⟩ : ∃ s, s = s5 ++ e.body := ⟨_, rfl⟩
 have c6 := fun W : World => run_string_add_sum (P := Tryz.prog) W s5 e.body (by omega)
 have z6 : s6.size ≤ 500 := by rw [hs6, ByteArray.size_append]; omega
 rw [← hs6] at c6
 have HS6 := lH hs6
 clear hs6
 have HB : Hid (Below w.heap.size w w) := Below.refl _ _
 go_enter Tryz.func108, Tryz.ntmps108
 go_wp2_with fail
 refine af (fun w1 hw => ?_)
 have hz1 : w.heap.size + 1 ≤ w1.heap.size := zA
 have hbn : Below w.heap.size w w1 := zB
 replace HB := bT HB hbn
 clear hbn
 have HXh : Hid (aa w1 (w.heap.size) [.string e.topic, .int .i64 e.index, .int .i64 e.time, .string e.key, .string e.body]) := zG5
 obtain ⟨hkh, hxh, hfh⟩ := HXh.out
 clear hw
 refine (HO.out _).mono ?_
 rintro e w2 ⟨rfl, hb⟩
 have hzw2 : w1.heap.size ≤ w2.heap.size := hb.size
 replace HB := bT HB hb
 replace HXh := nB HXh hb
 clear hxh hfh hkh
 obtain ⟨hkh, hxh, hfh⟩ := HXh.out
 clear hb
 have l0 : ∀ v : Later w2, v.v.cell? ⟨w.heap.size, 0, none⟩ = some (.string e.topic) := fun v => (ai v _ _ hkh).trans (hxh 0)
 have l1 : ∀ v : Later w2, v.v.cell? ⟨w.heap.size, 1, none⟩ = some (.int .i64 e.index) := fun v => (ai v _ _ hkh).trans (hxh 1)
 have l2 : ∀ v : Later w2, v.v.cell? ⟨w.heap.size, 2, none⟩ = some (.int .i64 e.time) := fun v => (ai v _ _ hkh).trans (hxh 2)
 have l3 : ∀ v : Later w2, v.v.cell? ⟨w.heap.size, 3, none⟩ = some (.string e.key) := fun v => (ai v _ _ hkh).trans (hxh 3)
 have l4 : ∀ v : Later w2, v.v.cell? ⟨w.heap.size, 4, none⟩ = some (.string e.body) := fun v => (ai v _ _ hkh).trans (hxh 4)
 go_wp2_with fail
 refine aA (by kernel_rfl) (by kernel_rfl) ?_
 repeat (go_big_quiet_step ((first | with_reducible exact aD (n1.out _) | with_reducible exact aD (n2.out _) | with_reducible exact aD (n3.out _) | with_reducible exact aD (n4.out _) | with_reducible exact aD (n5.out _))))
 refine wpQuiet_nil ?_
 intro w8 h8
 have hb8 := aO h8
 have HB8 := lH (aj HB.out hb8 HB.out.size)
 clear l0 l1 l2 l3 l4 h8 hb8
 go_wp2
 refine bodyPost_ret (v := .tuple #[.string s6, .bool true]) (by simp [results, Tryz.results108, go_sem]) rfl ?_
 exact ⟨by rw [HM.out, HS6.out, HS5.out, HS4.out, HS3.out, HS2.out, HS1.out], HB8.out⟩
theorem implLeafHash_c (width : Int) (e : Ent) (w : World) (hf : e.fits) : Calls Tryz.prog 148 #[.int .i64 width, .agg #[.string e.topic, .int .i64 e.index, .int .i64 e.time, .string e.key, .string e.body]] w fun r w' => r = .returned (.tuple #[.string (cz width e), .bool (fu width e)]) ∧ Below w.heap.size w w' := by
 have HO := lH (fun W => implLeafText_c e W hf)
 have HD := lH (fun W => ig width 0 (aI e) W (by have := dJ e; unfold maxLen; omega))
 have HB1 : Hid (cz width e = if aY e = true then eP width 0 (aI e) else ⟨#[]⟩) := lH rfl
 have HB2 : Hid (fu width e = (aY e && bN width 0 (aI e))) := lH rfl
 clear hf
 generalize aY e = q at *
 generalize aI e = tx at *
 generalize cz width e = lh at *
 generalize fu width e = lo at *
 generalize eP width 0 tx = dg at *
 generalize bN width 0 tx = dk at *
 have HB : Hid (Below w.heap.size w w) := Below.refl _ _
 go_enter Tryz.func148, Tryz.ntmps148
 go_wp2_with fail
 refine af (fun w1 hw => ?_)
 have hz1 : w.heap.size + 1 ≤ w1.heap.size := zA
 have hbn : Below w.heap.size w w1 := zB
 replace HB := bT HB hbn
 clear hbn
 have HXh : Hid (aa w1 (w.heap.size) [.string e.topic, .int .i64 e.index, .int .i64 e.time, .string e.key, .string e.body]) := zG5
 obtain ⟨hkh, hxh, hfh⟩ := HXh.out
 clear hw
 refine (HO.out _).mono ?_
 rintro e w2 ⟨rfl, hb⟩
 have hzw2 : w1.heap.size ≤ w2.heap.size := hb.size
 replace HB := bT HB hb
 replace HXh := nB HXh hb
 clear hxh hfh hkh
 obtain ⟨hkh, hxh, hfh⟩ := HXh.out
 clear hb
 rcases q with _ | _
 ·go_wp2
  refine bodyPost_ret (v := .tuple #[.string ⟨#[]⟩, .bool false]) (by simp [results, Tryz.results148, go_sem]) rfl ?_
  exact ⟨by rw [HB1.out, HB2.out]; rfl, HB.out⟩
 go_wp2_with fail
 refine af (fun w3 hw => ?_)
 have hz3 : w2.heap.size + 0 ≤ w3.heap.size := zA
 have hbn : Below w2.heap.size w2 w3 := zB
 replace HB := bT HB hbn
 replace HXh := nB HXh hbn
 clear hxh hfh hkh
 obtain ⟨hkh, hxh, hfh⟩ := HXh.out
 clear hbn
 clear hw
 refine (HD.out _).mono ?_
 rintro e w4 ⟨rfl, hb⟩
 have hzw4 : w3.heap.size ≤ w4.heap.size := hb.size
 replace HB := bT HB hb
 replace HXh := nB HXh hb
 clear hxh hfh hkh
 obtain ⟨hkh, hxh, hfh⟩ := HXh.out
 clear hb
 go_wp2
 refine bodyPost_ret (v := .tuple #[.string dg, .bool dk]) (by simp [results, Tryz.results148, go_sem]) rfl ?_
 exact ⟨by rw [HB1.out, HB2.out]; rfl, HB.out⟩
theorem specLeafHash_c (width : Int) (e : Ent) (w : World) (hf : e.fits) : Calls Tryz.prog 128 #[.int .i64 width, .agg #[.string e.topic, .int .i64 e.index, .int .i64 e.time, .string e.key, .string e.body]] w fun r w' => r = .returned (.tuple #[.string (cz width e), .bool (fu width e)]) ∧ Below w.heap.size w w' := by
 have HO := lH (fun W => specLeafText_c e W hf)
 have HD := lH (fun W => gQ width 0 (aI e) W (by have := dJ e; unfold maxLen; omega))
 have HB1 : Hid (cz width e = if aY e = true then eP width 0 (aI e) else ⟨#[]⟩) := lH rfl
 have HB2 : Hid (fu width e = (aY e && bN width 0 (aI e))) := lH rfl
 clear hf
 generalize aY e = q at *
 generalize aI e = tx at *
 generalize cz width e = lh at *
 generalize fu width e = lo at *
 generalize eP width 0 tx = dg at *
 generalize bN width 0 tx = dk at *
 have HB : Hid (Below w.heap.size w w) := Below.refl _ _
 go_enter Tryz.func128, Tryz.ntmps128
 go_wp2_with fail
 refine af (fun w1 hw => ?_)
 have hz1 : w.heap.size + 1 ≤ w1.heap.size := zA
 have hbn : Below w.heap.size w w1 := zB
 replace HB := bT HB hbn
 clear hbn
 have HXh : Hid (aa w1 (w.heap.size) [.string e.topic, .int .i64 e.index, .int .i64 e.time, .string e.key, .string e.body]) := zG5
 obtain ⟨hkh, hxh, hfh⟩ := HXh.out
 clear hw
 refine (HO.out _).mono ?_
 rintro e w2 ⟨rfl, hb⟩
 have hzw2 : w1.heap.size ≤ w2.heap.size := hb.size
 replace HB := bT HB hb
 replace HXh := nB HXh hb
 clear hxh hfh hkh
 obtain ⟨hkh, hxh, hfh⟩ := HXh.out
 clear hb
 rcases q with _ | _
 ·go_wp2
  refine bodyPost_ret (v := .tuple #[.string ⟨#[]⟩, .bool false]) (by simp [results, Tryz.results128, go_sem]) rfl ?_
  exact ⟨by rw [HB1.out, HB2.out]; rfl, HB.out⟩
 go_wp2_with fail
 refine af (fun w3 hw => ?_)
 have hz3 : w2.heap.size + 0 ≤ w3.heap.size := zA
 have hbn : Below w2.heap.size w2 w3 := zB
 replace HB := bT HB hbn
 replace HXh := nB HXh hbn
 clear hxh hfh hkh
 obtain ⟨hkh, hxh, hfh⟩ := HXh.out
 clear hbn
 clear hw
 refine (HD.out _).mono ?_
 rintro e w4 ⟨rfl, hb⟩
 have hzw4 : w3.heap.size ≤ w4.heap.size := hb.size
 replace HB := bT HB hb
 replace HXh := nB HXh hb
 clear hxh hfh hkh
 obtain ⟨hkh, hxh, hfh⟩ := HXh.out
 clear hb
 go_wp2
 refine bodyPost_ret (v := .tuple #[.string dg, .bool dk]) (by simp [results, Tryz.results128, go_sem]) rfl ?_
 exact ⟨by rw [HB1.out, HB2.out]; rfl, HB.out⟩
end
section
open Go.RowKit Go.Maps Go.WideMaps
theorem strLaw : Keyed Tryz.prog 9 := string_keyed Tryz.underlying9
theorem zeroInt (w : World) : (zeroValue 3).run Tryz.prog w = .ok (.int .i64 0) w := by kernel_rfl
def Counts (l : List Ent) (k : Nat) (D : DataW Unit) : Prop :=
 Maps.IsMap D ∧ ∀ t : ByteArray, D.atKey (.string t.data.toList) (.lit (.int .i64 0)) = .lit (.int .i64 (cnt (l.take k) t : Nat))
theorem counts_0 (l : List Ent) : Counts l 0 (.map []) := ⟨Maps.isMap_empty, fun t => rfl⟩
theorem counts_succ {l : List Ent} {k : Nat} {D : DataW Unit} {e : Ent} (h : Counts l k D) (he : l[k]? = some e) : Counts l (k + 1) (D.put (.string e.topic.data.toList) (.lit (.int .i64 ((cnt (l.take k) e.topic : Nat) + 1)))) := by
 refine ⟨h.1.put _ _, fun t => ?_⟩
 by_cases ht : e.topic = t
 ·rw [← ht, Maps.atKey_put_same (k := .string e.topic.data.toList) h.1 (show WideAt.IsKeyLit (.string _) from trivial), cnt_yes he rfl]; rfl
 ·rw [Maps.atKey_put_other (fun e1 => ht (ByteArray.ext (Array.toList_inj.1 (Lit.string.inj e1).symm))), h.2 t, cnt_no he ht]
theorem ownsMap_below {w w' : World} {P : Program} {k : TypeId} {R : Value → Option (DataW Unit × List MemPlace)} {b n : Nat} {D : DataW Unit} (h : w.ownsMap P k R b n D) (hb : Below w.heap.size w w') : w'.ownsMap P k R b n D :=
 h.kept (row := none) ⟨hb.os, hb.tape, hb.output, hb.size, fun i hi _ => hb.block i hi⟩ (by simp)
theorem implLogOk_c (A : Option Addr) (c lo hi n : Nat) (l : List Ent) (w : World) (hr : Rd w lo hi A (aQ l)) (hn : l.length = n) (hl : n ≤ 1048576) (hf : ∀ x ∈ l, x.fits) :
  Calls Tryz.prog 86 #[.agg #[.slice A n c]] w fun e w' => e = .returned (.bool (gI l)) ∧ Below w.heap.size w w' := by
 have HN := lH hn
 have HF := lH hf
 clear hn hf
 have hmm := @run_makeMap Tryz.prog
 go_enter Tryz.func86, Tryz.ntmps86
 rcases (show n ≤ 512 ∨ 512 < n by omega) with h5 | h5
 ·go_wp2
  go_loopw [14] (fun i wr => ∃ (k : Nat) (D : DataW Unit), k ≤ n ∧ i = .int .i64 k ∧ gV l k = true ∧ Counts l k D ∧ wr.ownsMap Tryz.prog 9 (plainElem Tryz.prog 3) (w.heap.size + 1) k D ∧ Below w.heap.size w wr) (fun i _ => n - (intOf i).toNat)
  case atStart => exact ⟨0, _, Nat.zero_le _, rfl, rfl, counts_0 l, by have := World.ownsMap_made (H := Unit) (w.alloc (.cells #[.slice A n c] 26)) Tryz.prog 9 (plainElem Tryz.prog 3); simpa using this, ((Below.refl _ _).alloc (Nat.le_refl _) _).alloc (by first | omega | (simp; done) | (simp; omega)) _⟩
  case round =>
   obtain ⟨k, D, hk, rfl, hrt, hct, hown, hb0⟩ := hrel
   have HRT := lH hrt
   have HCT := lH hct
   clear hrt hct
   by_cases hlt : k < n
   ·obtain ⟨b, off, x, rfl, _, _, hb, hks, hcell⟩ := (hr.below hb0).flat (f := Ent.cells) (m := 5) (fun _ => rfl) (by omega) (k := k) (by rw [HN.out]; exact hlt)
    have hc0 : wr.cell? ⟨b, off + k * 5, none⟩ = some (.string x.topic) := hcell 0 _ rfl
    have hc1 : wr.cell? ⟨b, off + k * 5 + 1, none⟩ = some (.int .i64 x.index) := hcell 1 _ rfl
    have hc2 : wr.cell? ⟨b, off + k * 5 + 2, none⟩ = some (.int .i64 x.time) := hcell 2 _ rfl
    have hc3 : wr.cell? ⟨b, off + k * 5 + 3, none⟩ = some (.string x.key) := hcell 3 _ rfl
    have hc4 : wr.cell? ⟨b, off + k * 5 + 4, none⟩ = some (.string x.body) := hcell 4 _ rfl
    have HK := lH hks
    have HB0 := lH hb0
    have HO := lH hown
    have HX := lH (HF.out x (List.mem_of_getElem? hks))
    have hle := cnt_take_le l x.topic k
    clear hcell hks hr hb0 hown
    go_wp2_with fail
    refine (implEntryOk_c x _ HX.out).mono ?_
    rintro e w2 ⟨rfl, hb2⟩
    have hd0 : w2.cell? ⟨wr.heap.size, 0, none⟩ = some (.string x.topic) := cell_later hb2 (by go_simp)
    have hd1 : w2.cell? ⟨wr.heap.size, 1, none⟩ = some (.int .i64 x.index) := cell_later hb2 (by go_simp)
    have hq2 : wr.heap.size < w2.heap.size := by have := hb2.size; simp at this; omega
    have HB2 : Hid (Below w.heap.size w w2) := aj (HB0.out.alloc HB0.out.size _) hb2 (by have := HB0.out.size; simp; omega)
    have hown2 := ownsMap_below (HO.out.alloc _) hb2
    clear hb2 hc0 hc1 hc2 hc3 hc4
    rcases h1 : aY x with _ | _
    ·clear hown2
     go_wp2
     go_ret
     exact ⟨ak (logOk_bad (by rw [HN.out]; exact hlt) (by rw [rightAt_eq HK.out, h1]; rfl)).symm, HB2.out⟩
    have H1 := lH h1
    clear h1
    obtain ⟨tp, htp⟩ : ∃ tp, tp = x.topic := ⟨_, rfl⟩
    have hkey : keyOf Tryz.prog 9 (.string x.topic) = some (.string x.topic.data.toList) := keyOf_string_mk Tryz.underlying9 HX.out.2.2.1
    obtain ⟨z, hrun, hat, hwz⟩ := hown2.lookup_int strLaw Tryz.underlying192 Tryz.underlying3 (zeroInt _) hkey
    have hzc : z = (cnt (l.take k) x.topic : Nat) := by
     have := (HCT.out.2 x.topic).symm.trans hat
     injection this with this
     injection this with _ this
     exact this.symm
    subst hzc
    have HAT := lH hat
    clear hat htp
    rcases (show ((cnt (l.take k) x.topic : Nat) : Int) = x.index ∨ ((cnt (l.take k) x.topic : Nat) : Int) ≠ x.index by omega) with h6 | h6
    ·have hbq : (x.index != ((cnt (l.take k) x.topic : Nat) : Int)) = false := by simp [h6]
     have HR1 : Hid (gV l (k + 1) = true) := by rw [Hid, rightTo_succ, HRT.out, rightAt_eq HK.out, H1.out]; simp [h6]
     have hc6 := counts_succ HCT.out HK.out
     rw [h6] at hc6
     have HC1 := lH hc6
     clear hc6
     have hub : x.index ≤ 512 := by omega
     have hlb : 0 ≤ x.index := by omega
     generalize hgz : cnt (l.take k) x.topic = y at *
     go_wp2_with (first
      | (at_mapUpdate; go_loud (refine wpList_mapUpdate_own _ rfl _ _ _ 192 rfl 9 3 strLaw Tryz.underlying192 _ (w.heap.size + 1) k _ rfl hown2 (by unfold maxLen; omega) _ _ _ rfl rfl hkey _ [] (plainElem_int Tryz.underlying3 (WalkArith.wf_i64 (by omega))) ?_))
      | go_in)
     intro w3 hown3 hgrow3
     have HB3 := lH (HB2.out.grown hgrow3 HB2.out.size (fun j hj => by cases hj; omega))
     clear hgrow3 hown2 hrun hkey; go_wp2
     go_roundw
     case rel => exact ⟨k + 1, _, by omega, by go_num, HR1.out, HC1.out, hown3, HB3.out⟩
     case measure => simp [intOf]; omega
    have hbq : (x.index != ((cnt (l.take k) x.topic : Nat) : Int)) = true := by simp [bne_iff_ne]; omega
    generalize hgz : cnt (l.take k) x.topic = y at *
    clear hown2; go_wp2
    go_ret
    exact ⟨ak (logOk_bad (by rw [HN.out]; exact hlt) (by rw [rightAt_eq HK.out, H1.out, hgz]; simp [h6])).symm, HB2.out⟩
   obtain rfl : k = n := by omega
   have HB0 := lH hb0
   clear hb0 hr hown; go_wp2
   go_ret
   exact ⟨ak (by rw [gI, HN.out, HRT.out]; simp [h5]), HB0.out⟩
 go_wp2
 go_ret
 exact ⟨ak (logOk_big (by rw [HN.out]; exact h5)).symm, (Below.refl _ _).alloc (Nat.le_refl _) _⟩
end
section
open Go.RowKit
theorem dZ (a b : List ByteArray) : strs (a ++ b) = strs a ++ strs b := by simp [strs]
theorem ent_cells {w : World} {lo hi : Nat} {A : Option Addr} {l : List Ent} (h : Rd w lo hi A (aQ l)) {k : Nat} (hk : k < l.length) : ∃ b off x, A = some ⟨b, off, none⟩ ∧ b < w.heap.size ∧ l[k]? = some x ∧
  w.cell? ⟨b, off + k * 5, none⟩ = some (.string x.topic) ∧ w.cell? ⟨b, off + k * 5 + 1, none⟩ = some (.int .i64 x.index) ∧ w.cell? ⟨b, off + k * 5 + 2, none⟩ = some (.int .i64 x.time) ∧ w.cell? ⟨b, off + k * 5 + 3, none⟩ = some (.string x.key) ∧ w.cell? ⟨b, off + k * 5 + 4, none⟩ = some (.string x.body) := by
 obtain ⟨b, off, x, h1, _, _, h4, h5, h6⟩ := Rd.flat (f := Ent.cells) (m := 5) (fun _ => rfl) (by omega) h hk
 exact ⟨b, off, x, h1, h4, h5, h6 0 _ rfl, h6 1 _ rfl, h6 2 _ rfl, h6 3 _ rfl, h6 4 _ rfl⟩
theorem hashesOf_c (width : Int) (A : Option Addr) (c lo hi n : Nat) (l : List Ent) (w : World) (hr : Rd w lo hi A (aQ l)) (hn : l.length = n) (hl : n ≤ 1048576) (hf : ∀ x ∈ l, x.fits) :
  Calls Tryz.prog 90 #[.int .i64 width, .agg #[.slice A n c]] w fun e w' => ∃ A' c', e = .returned (.slice A' n c') ∧ w'.ownsRow w.heap.size 9 1 (.slice A' n c') n (strs (l.map (cz width))) ∧ Below w.heap.size w w' := by
 have HN := lH hn
 have HR := lH hr
 have HF := lH hf
 obtain ⟨L, hL⟩ : ∃ L, L = l.map (cz width) := ⟨_, rfl⟩
 have HLL := lH hL
 rw [← hL]
 clear hn hr hf hL
 go_enter Tryz.func90, Tryz.ntmps90
 go_wp2
 go_loopw [5, 13] (fun v i wx => ∃ (k : Nat) (A0 : Option Addr) (c0 : Nat), k ≤ n ∧ i = .int .i64 k ∧ v = .slice A0 k c0 ∧ wx.ownsRow w.heap.size 9 1 (.slice A0 k c0) k (strs (L.take k)) ∧ Below w.heap.size w wx ) (fun _ i _ => n - (intOf i).toNat)
 case atStart => exact ⟨0, none, 0, Nat.zero_le _, rfl, rfl, World.ownsRow_nil _ _ _ _, (Below.refl _ _).alloc (Nat.le_refl _) _⟩
 case round =>
  obtain ⟨k, A0, c0, hk, rfl, rfl, how, hbr⟩ := hrel
  have HBR := lH hbr
  have HOW := lH how
  clear hbr how
  by_cases hlt : k < n
  ·skip
   obtain ⟨b, off, x, rfl, hb, hx, hc⟩ := ent_cells (HR.out.below HBR.out) (k := k) (by rw [HN.out]; exact hlt)
   have hc0 := hc.1; have hc1 := hc.2.1; have hc2 := hc.2.2.1; have hc3 := hc.2.2.2.1; have hc4 := hc.2.2.2.2
   have HT : Hid (L.take (k + 1) = L.take k ++ [cz width x]) := lH (bH (by rw [HLL.out, List.getElem?_map, hx]; rfl))
   have HLH := lH (fun W => implLeafHash_c width x W (HF.out x (List.mem_of_getElem? hx)))
   have hI : (k : Int) < n := by omega
   clear hc hx; generalize cz width x = lh at *; generalize fu width x = lk at *
   go_wp2_with fail
   refine (HLH.out _).mono ?_
   rintro e w1 ⟨rfl, hb1⟩
   have HB1 := lH (aj (HBR.out.alloc HBR.out.size _) hb1 (by first | exact HBR.out.size | (have := HBR.out.size; simp; omega)))
   have HO1 := lH (dO (HOW.out.alloc _) hb1)
   have hz1 := HB1.out.size; clear hb1 HOW hc0 hc1 hc2 hc3 hc4
   go_wp2_with (at_builtin; refine gy rfl _ _ rfl w.heap.size _ _ _ rfl (HO1.out.alloc _) w1.heap.size lh rfl (aa.new w1 _ _) (by omega) (by first | omega | (simp; done) | (simp; omega)) ?_)
   intro v2 w2 hown2 hg2
   have hon := bJ (HO1.out.alloc _) hg2
   obtain ⟨A2, c2, rfl, _, _, _⟩ := az hown2
   have HB2 : Hid (Below w.heap.size w w2) := au (HB1.out.alloc HB1.out.size _) hon (Nat.le_refl _) (by simp; omega)
   rw [← dZ, ← HT.out] at hown2
   have HO2 := lH hown2
   clear hown2 hg2 hon HO1; go_wp2
   go_roundw
   case measure => simp [intOf]; omega
   case rel => exact ⟨k + 1, A2, c2, by omega, by go_num, rfl, HO2.out, HB2.out⟩
  obtain rfl : k = n := by omega
  have hlt : L.take k = L := List.take_of_length_le (by rw [HLL.out, List.length_map, HN.out]; exact Nat.le_refl _)
  rw [hlt] at HOW
  clear hlt; go_wp2
  go_ret
  exact ⟨A0, c0, rfl, HOW.out, HBR.out⟩
theorem l09Hashes_c (width : Int) (A : Option Addr) (c lo hi n : Nat) (l : List Ent) (w : World) (hr : Rd w lo hi A (aQ l)) (hn : l.length = n) (hl : n ≤ 1048576) (hf : ∀ x ∈ l, x.fits) :
  Calls Tryz.prog 79 #[.int .i64 width, .slice A n c] w fun e w' => ∃ A' c', e = .returned (.slice A' n c') ∧ w'.ownsRow w.heap.size 9 1 (.slice A' n c') n (strs (l.map (cz width))) ∧ Below w.heap.size w w' := by
 have HN := lH hn
 have HR := lH hr
 have HF := lH hf
 obtain ⟨L, hL⟩ : ∃ L, L = l.map (cz width) := ⟨_, rfl⟩
 have HLL := lH hL
 rw [← hL]
 have hrow := dP w 9 0
 have hbl : Below w.heap.size w (w.alloc (.cells #[] 9)) := (Below.refl _ _).alloc (Nat.le_refl _) _
 have HROW := lH hrow
 have HBL := lH hbl
 clear hn hr hf hL hrow hbl
 go_enter Tryz.func79, Tryz.ntmps79
 go_wp2
 go_loopw [5, 6] (fun v i wx => ∃ (k : Nat) (A0 : Option Addr) (c0 : Nat), k ≤ n ∧ i = .int .i64 k ∧ v = .slice A0 k c0 ∧ wx.ownsRow w.heap.size 9 1 (.slice A0 k c0) k (strs (L.take k)) ∧ Below w.heap.size w wx ) (fun _ i _ => n - (intOf i).toNat)
 case atStart => exact ⟨0, _, 0, Nat.zero_le _, rfl, rfl, HROW.out, HBL.out⟩
 case round =>
  obtain ⟨k, A0, c0, hk, rfl, rfl, how, hbr⟩ := hrel
  have HBR := lH hbr
  have HOW := lH how
  clear hbr how
  by_cases hlt : k < n
  ·skip
   obtain ⟨b, off, x, rfl, hb, hx, hc⟩ := ent_cells (HR.out.below HBR.out) (k := k) (by rw [HN.out]; exact hlt)
   have hc0 := hc.1; have hc1 := hc.2.1; have hc2 := hc.2.2.1; have hc3 := hc.2.2.2.1; have hc4 := hc.2.2.2.2
   have HT : Hid (L.take (k + 1) = L.take k ++ [cz width x]) := lH (bH (by rw [HLL.out, List.getElem?_map, hx]; rfl))
   have HLH := lH (fun W => specLeafHash_c width x W (HF.out x (List.mem_of_getElem? hx)))
   have hI : (k : Int) < n := by omega
   clear hc hx; generalize cz width x = lh at *; generalize fu width x = lk at *
   go_wp2_with fail
   refine (HLH.out _).mono ?_
   rintro e w1 ⟨rfl, hb1⟩
   have HB1 := lH (aj HBR.out hb1 (by first | exact HBR.out.size | (have := HBR.out.size; simp; omega)))
   have HO1 := lH (dO HOW.out hb1)
   have hz1 := HB1.out.size; clear hb1 HOW hc0 hc1 hc2 hc3 hc4
   go_wp2_with (at_builtin; refine gy rfl _ _ rfl w.heap.size _ _ _ rfl (HO1.out.alloc _) w1.heap.size lh rfl (aa.new w1 _ _) (by omega) (by first | omega | (simp; done) | (simp; omega)) ?_)
   intro v2 w2 hown2 hg2
   have hon := bJ (HO1.out.alloc _) hg2
   obtain ⟨A2, c2, rfl, _, _, _⟩ := az hown2
   have HB2 : Hid (Below w.heap.size w w2) := au (HB1.out.alloc HB1.out.size _) hon (Nat.le_refl _) (by simp; omega)
   rw [← dZ, ← HT.out] at hown2
   have HO2 := lH hown2
   clear hown2 hg2 hon HO1; go_wp2
   go_roundw
   case measure => simp [intOf]; omega
   case rel => exact ⟨k + 1, A2, c2, by omega, by go_num, rfl, HO2.out, HB2.out⟩
  obtain rfl : k = n := by omega
  have hlt : L.take k = L := List.take_of_length_le (by rw [HLL.out, List.length_map, HN.out]; exact Nat.le_refl _)
  rw [hlt] at HOW
  clear hlt; go_wp2
  go_ret
  exact ⟨A0, c0, rfl, HOW.out, HBR.out⟩
end
end Go.Proofs.YtoccjgcokffkbaaGreat
