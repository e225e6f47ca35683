/- Part 9 of the proof of FnProofs: lemmas and contracts. -/
import Derived.Test.YtoccjgcokffkbaaGreatTq8
import Derived.Test.YtoccjgcokffkbaaGreatTq7
import Derived.Maps.OwnOps
import Derived.Maps.Views
import Derived.Test.YtoccjgcokffkbaaGreatTq6
namespace Go.Proofs.YtoccjgcokffkbaaGreat
set_option linter.unusedVariables false
set_option linter.unusedSimpArgs false
set_option maxHeartbeats 20000000
section
open Go.RowKit
theorem entryOk_all {e : Ent} (h : entryOk e = true) : e.topic.size ≤ 20 ∧ 0 ≤ e.index ∧ e.index ≤ 511 ∧ 0 ≤ e.time ∧ e.time ≤ 1000000000 ∧ e.key.size ≤ 40 ∧ e.body.size ≤ 400 := by
 rw [entryOk, Bool.and_eq_true, Bool.and_eq_true, partsOk, Bool.and_eq_true, Bool.and_eq_true, nameOk, Bool.and_eq_true] at h
 have h1 := inR_true.1 h.1.1
 have h2 := inR_true.1 h.2.1
 have h3 := inR_true.1 h.2.2.1
 have h4 := of_decide_eq_true h.2.2.2.1
 have h5 := of_decide_eq_true h.2.2.2.2
 omega
def leafTextB (e : Ent) : ByteArray := ⟨#[69]⟩ ++ shortB e.topic ++ pairB e.index ++ wordText e.time ++ shortB e.key ++ pairB e.body.size ++ e.body
def leafTextM (e : Ent) : ByteArray := if entryOk e then leafTextB e else ByteArray.empty
theorem shortB_size (t : ByteArray) : (shortB t).size = 1 + t.size := by rw [shortB, ByteArray.size_append, octB_size]
theorem leafTextM_size (e : Ent) : (leafTextM e).size ≤ 480 := by
 by_cases h : entryOk e = true
 ·have := entryOk_all h
  rw [leafTextM, if_pos h, leafTextB]
  simp only [ByteArray.size_append, pairB_size, shortB_size, wordText_size]
  rw [show ((⟨#[69]⟩ : ByteArray)).size = 1 from rfl]
  omega
 ·rw [leafTextM, if_neg h]; exact Nat.zero_le _
theorem numUp_4 {n : Int} (h0 : 0 ≤ n) (h : n < 4294967296) : numUp n 4 = wordText n := by
 show octB (n / 256 / 256 / 256) ++ (octB (n / 256 / 256) ++ (octB (n / 256) ++ (octB n ++ ByteArray.empty))) = wordText n
 rw [ByteArray.append_empty]
 have e1 : n / 256 / 256 / 256 % 256 = n / 16777216 := by omega
 have e2 : n / 256 / 256 % 256 = n / 65536 % 256 := by omega
 show strOfNums [n / 256 / 256 / 256 % 256] ++ (strOfNums [n / 256 / 256 % 256] ++ (strOfNums [n / 256 % 256] ++ strOfNums [n % 256])) = strOfNums [n / 16777216, n / 65536 % 256, n / 256 % 256, n % 256]
 rw [e1, e2]
 rfl
theorem l03Number4_c {n : Int} (w : World) (h0 : 0 ≤ n) (h : n ≤ 1000000000) : Calls Tryz.prog 110 #[.int .i64 n, .int .i64 4] w fun e w' => e = .returned (.string (wordText n)) ∧ Below w.heap.size w w' := by
 have := l03Number_c n 4 w h0 (by omega) (by omega)
 rwa [numUp_4 h0 (by omega)] at this
def leafHashM (width : Int) (e : Ent) : ByteArray := if entryOk e = true then digM width 0 (leafTextM e) else ⟨#[]⟩
def leafHashOk (width : Int) (e : Ent) : Bool := entryOk e && digOk width 0 (leafTextM e)
set_option maxRecDepth 100000 in
theorem implLeafText_c (e : Ent) (w : World) (hf : e.fits) : Calls Tryz.prog 137 #[.agg #[.string e.topic, .int .i64 e.index, .int .i64 e.time, .string e.key, .string e.body]] w fun r w' => r = .returned (.tuple #[.string (leafTextM e), .bool (entryOk e)]) ∧ Below w.heap.size w w' := by
 have HO := lH (fun W => implEntryOk_c e W hf)
 rcases hq : entryOk e with _ | _
 ·have HM : Hid (leafTextM e = ⟨#[]⟩) := by rw [Hid, leafTextM, hq]; rfl
  rw [hq] at HO
  clear hq
  have HB : Hid (Below w.heap.size w w) := Below.refl _ _
  go_enter Tryz.func137, Tryz.ntmps137
  go_wp2_with fail
  refine calls_named (fun w1 hw => ?_)
  have hz1 : w.heap.size + 1 ≤ w1.heap.size := by rw [hw]; first | omega | simp [World.setCell] <;> omega
  have hzz1 : w.heap.size ≤ w1.heap.size := by omega
  have hbn : Below w.heap.size w w1 := by rw [hw]; exact (by repeat with_reducible first | exact bR _ | apply bA | apply bD)
  replace HB := lH (below_then HB.out hbn HB.out.size)
  clear hbn
  have HXh : Hid (NewBox w1 (w.heap.size) [.string e.topic, .int .i64 e.index, .int .i64 e.time, .string e.key, .string e.body]) := by rw [Hid, hw]; exact ⟨by first | omega | (simp [World.setCell]; done) | (simp [World.setCell]; omega), fun o => by rcases o with _ | _ | _ | _ | _ | o <;> go_simp, fun o => by go_simp⟩
  obtain ⟨hkh, hxh, hfh⟩ := HXh.out
  clear hw
  refine (HO.out _).mono ?_
  rintro e w2 ⟨rfl, hb⟩
  have hzw2 : w1.heap.size ≤ w2.heap.size := hb.size
  have hzzw2 : w.heap.size ≤ w2.heap.size := by omega
  replace HB := lH (below_then HB.out hb HB.out.size)
  replace HXh := lH (HXh.out.below hb)
  clear hxh hfh hkh
  obtain ⟨hkh, hxh, hfh⟩ := HXh.out
  clear hb
  go_wp2
  refine bodyPost_ret (v := .tuple #[.string ⟨#[]⟩, .bool false]) (by simp [results, Tryz.results137, go_sem]) rfl ?_
  exact ⟨by rw [HM.out], HB.out⟩
 ·obtain ⟨g1, g2, g3, g4, g5, g6, g7⟩ := entryOk_all hq
  have HM : Hid (leafTextM e = ⟨#[69]⟩ ++ shortB e.topic ++ pairB e.index ++ wordText e.time ++ shortB e.key ++ pairB e.body.size ++ e.body) := by rw [Hid, leafTextM, hq]; rfl
  rw [hq] at HO
  have n1 := lH (fun W => short_c e.topic W (by omega))
  have n2 := lH (fun W => pair_c e.index W g2 (by omega))
  have n3 := lH (fun W => implWordText_c e.time W (by omega))
  have n4 := lH (fun W => short_c e.key W (by omega))
  have n5 := lH (fun W => pair_c e.body.size W (by omega) (by omega))
  have e1 := shortB_size e.topic
  have e2 := pairB_size e.index
  have e3 := wordText_size e.time
  have e4 := shortB_size e.key
  have e5 := pairB_size e.body.size
  have e0 : ((⟨#[69]⟩ : ByteArray)).size = 1 := rfl
  have E1 : IntKind.u32.wrap e.time = e.time := by rw [IntKind.wrap_u32]; omega
  clear hq hf
  generalize shortB e.topic = p1 at *
  generalize pairB e.index = p2 at *
  generalize wordText e.time = p3 at *
  generalize shortB e.key = p4 at *
  generalize pairB e.body.size = p5 at *
  obtain ⟨s1, hs1⟩ : ∃ s, s = ⟨#[69]⟩ ++ p1 := ⟨_, rfl⟩
  have c1 := fun W : World => run_string_add_sum (P := Tryz.prog) W ⟨#[69]⟩ p1 (by omega)
  have z1 : s1.size ≤ 22 := by rw [hs1, ByteArray.size_append]; omega
  rw [← hs1] at c1
  have HS1 := lH hs1
  clear hs1
  obtain ⟨s2, hs2⟩ : ∃ s, s = s1 ++ p2 := ⟨_, rfl⟩
  have c2 := fun W : World => run_string_add_sum (P := Tryz.prog) W s1 p2 (by omega)
  have z2 : s2.size ≤ 24 := by rw [hs2, ByteArray.size_append]; omega
  rw [← hs2] at c2
  have HS2 := lH hs2
  clear hs2
  obtain ⟨s3, hs3⟩ : ∃ s, s = s2 ++ p3 := ⟨_, rfl⟩
  have c3 := fun W : World => run_string_add_sum (P := Tryz.prog) W s2 p3 (by omega)
  have z3 : s3.size ≤ 28 := by rw [hs3, ByteArray.size_append]; omega
  rw [← hs3] at c3
  have HS3 := lH hs3
  clear hs3
  obtain ⟨s4, hs4⟩ : ∃ s, s = s3 ++ p4 := ⟨_, rfl⟩
  have c4 := fun W : World => run_string_add_sum (P := Tryz.prog) W s3 p4 (by omega)
  have z4 : s4.size ≤ 80 := by rw [hs4, ByteArray.size_append]; omega
  rw [← hs4] at c4
  have HS4 := lH hs4
  clear hs4
  obtain ⟨s5, hs5⟩ : ∃ s, s = s4 ++ p5 := ⟨_, rfl⟩
  have c5 := fun W : World => run_string_add_sum (P := Tryz.prog) W s4 p5 (by omega)
  have z5 : s5.size ≤ 90 := by rw [hs5, ByteArray.size_append]; omega
  rw [← hs5] at c5
  have HS5 := lH hs5
  clear hs5
  obtain ⟨s6, hs6⟩ : ∃ s, s = s5 ++ e.body := ⟨_, rfl⟩
  have c6 := fun W : World => run_string_add_sum (P := Tryz.prog) W s5 e.body (by omega)
  have z6 : s6.size ≤ 500 := by rw [hs6, ByteArray.size_append]; omega
  rw [← hs6] at c6
  have HS6 := lH hs6
  clear hs6
  have HB : Hid (Below w.heap.size w w) := Below.refl _ _
  go_enter Tryz.func137, Tryz.ntmps137
  go_wp2_with fail
  refine calls_named (fun w1 hw => ?_)
  have hz1 : w.heap.size + 1 ≤ w1.heap.size := by rw [hw]; first | omega | simp [World.setCell] <;> omega
  have hzz1 : w.heap.size ≤ w1.heap.size := by omega
  have hbn : Below w.heap.size w w1 := by rw [hw]; exact (by repeat with_reducible first | exact bR _ | apply bA | apply bD)
  replace HB := lH (below_then HB.out hbn HB.out.size)
  clear hbn
  have HXh : Hid (NewBox w1 (w.heap.size) [.string e.topic, .int .i64 e.index, .int .i64 e.time, .string e.key, .string e.body]) := by rw [Hid, hw]; exact ⟨by first | omega | (simp [World.setCell]; done) | (simp [World.setCell]; omega), fun o => by rcases o with _ | _ | _ | _ | _ | o <;> go_simp, fun o => by go_simp⟩
  obtain ⟨hkh, hxh, hfh⟩ := HXh.out
  clear hw
  refine (HO.out _).mono ?_
  rintro e w2 ⟨rfl, hb⟩
  have hzw2 : w1.heap.size ≤ w2.heap.size := hb.size
  have hzzw2 : w.heap.size ≤ w2.heap.size := by omega
  replace HB := lH (below_then HB.out hb HB.out.size)
  replace HXh := lH (HXh.out.below hb)
  clear hxh hfh hkh
  obtain ⟨hkh, hxh, hfh⟩ := HXh.out
  clear hb
  have l0 : ∀ v : Later w2, v.v.cell? ⟨w.heap.size, 0, none⟩ = some (.string e.topic) := fun v => (later_cell v _ _ hkh).trans (hxh 0)
  have l1 : ∀ v : Later w2, v.v.cell? ⟨w.heap.size, 1, none⟩ = some (.int .i64 e.index) := fun v => (later_cell v _ _ hkh).trans (hxh 1)
  have l2 : ∀ v : Later w2, v.v.cell? ⟨w.heap.size, 2, none⟩ = some (.int .i64 e.time) := fun v => (later_cell v _ _ hkh).trans (hxh 2)
  go_wp2_with fail
  refine wp_region_later (by kernel_rfl) (by kernel_rfl) ?_
  repeat (go_big_quiet_step ((first | with_reducible exact later_call (n1.out _) | with_reducible exact later_call (n2.out _) | with_reducible exact later_call (n3.out _))))
  refine wpQuiet_nil ?_
  intro w9 h9
  have hb9 := later_below h9
  clear l0 l1 l2 h9 c1 c2 c3
  have hzw9 : w2.heap.size ≤ w9.heap.size := hb9.size
  have hzzw9 : w.heap.size ≤ w9.heap.size := by omega
  replace HB := lH (below_then HB.out hb9 HB.out.size)
  replace HXh := lH (HXh.out.below hb9)
  clear hxh hfh hkh
  obtain ⟨hkh, hxh, hfh⟩ := HXh.out
  clear hb9
  have l3 : ∀ v : Later w9, v.v.cell? ⟨w.heap.size, 3, none⟩ = some (.string e.key) := fun v => (later_cell v _ _ hkh).trans (hxh 3)
  have l4 : ∀ v : Later w9, v.v.cell? ⟨w.heap.size, 4, none⟩ = some (.string e.body) := fun v => (later_cell v _ _ hkh).trans (hxh 4)
  go_wp2_with fail
  refine wp_region_later (by kernel_rfl) (by kernel_rfl) ?_
  repeat (go_big_quiet_step ((first | with_reducible exact later_call (n4.out _) | with_reducible exact later_call (n5.out _))))
  refine wpQuiet_nil ?_
  intro w8 h8
  have hb8 := later_below h8
  have HB8 := lH (below_then HB.out hb8 HB.out.size)
  clear l3 l4 h8 hb8
  go_wp2
  refine bodyPost_ret (v := .tuple #[.string s6, .bool true]) (by simp [results, Tryz.results137, go_sem]) rfl ?_
  exact ⟨by rw [HM.out, HS6.out, HS5.out, HS4.out, HS3.out, HS2.out, HS1.out], HB8.out⟩
set_option maxRecDepth 100000 in
theorem specLeafText_c (e : Ent) (w : World) (hf : e.fits) : Calls Tryz.prog 108 #[.agg #[.string e.topic, .int .i64 e.index, .int .i64 e.time, .string e.key, .string e.body]] w fun r w' => r = .returned (.tuple #[.string (leafTextM e), .bool (entryOk e)]) ∧ Below w.heap.size w w' := by
 have HO := lH (fun W => specEntryOk_c e W hf)
 rcases hq : entryOk e with _ | _
 ·have HM : Hid (leafTextM e = ⟨#[]⟩) := by rw [Hid, leafTextM, hq]; rfl
  rw [hq] at HO
  clear hq
  have HB : Hid (Below w.heap.size w w) := Below.refl _ _
  go_enter Tryz.func108, Tryz.ntmps108
  go_wp2_with fail
  refine calls_named (fun w1 hw => ?_)
  have hz1 : w.heap.size + 1 ≤ w1.heap.size := by rw [hw]; first | omega | simp [World.setCell] <;> omega
  have hzz1 : w.heap.size ≤ w1.heap.size := by omega
  have hbn : Below w.heap.size w w1 := by rw [hw]; exact (by repeat with_reducible first | exact bR _ | apply bA | apply bD)
  replace HB := lH (below_then HB.out hbn HB.out.size)
  clear hbn
  have HXh : Hid (NewBox w1 (w.heap.size) [.string e.topic, .int .i64 e.index, .int .i64 e.time, .string e.key, .string e.body]) := by rw [Hid, hw]; exact ⟨by first | omega | (simp [World.setCell]; done) | (simp [World.setCell]; omega), fun o => by rcases o with _ | _ | _ | _ | _ | o <;> go_simp, fun o => by go_simp⟩
  obtain ⟨hkh, hxh, hfh⟩ := HXh.out
  clear hw
  refine (HO.out _).mono ?_
  rintro e w2 ⟨rfl, hb⟩
  have hzw2 : w1.heap.size ≤ w2.heap.size := hb.size
  have hzzw2 : w.heap.size ≤ w2.heap.size := by omega
  replace HB := lH (below_then HB.out hb HB.out.size)
  replace HXh := lH (HXh.out.below hb)
  clear hxh hfh hkh
  obtain ⟨hkh, hxh, hfh⟩ := HXh.out
  clear hb
  go_wp2
  refine bodyPost_ret (v := .tuple #[.string ⟨#[]⟩, .bool false]) (by simp [results, Tryz.results108, go_sem]) rfl ?_
  exact ⟨by rw [HM.out], HB.out⟩
 ·obtain ⟨g1, g2, g3, g4, g5, g6, g7⟩ := entryOk_all hq
  have HM : Hid (leafTextM e = ⟨#[69]⟩ ++ shortB e.topic ++ pairB e.index ++ wordText e.time ++ shortB e.key ++ pairB e.body.size ++ e.body) := by rw [Hid, leafTextM, hq]; rfl
  rw [hq] at HO
  have n1 := lH (fun W => l03Short_c e.topic W (by omega))
  have n2 := lH (fun W => l03Number2_c (n := e.index) W g2 (by omega))
  have n3 := lH (fun W => l03Number4_c (n := e.time) W g4 g5)
  have n4 := lH (fun W => l03Short_c e.key W (by omega))
  have n5 := lH (fun W => l03Number2_c (n := (e.body.size : Nat)) W (by omega) (by omega))
  have e1 := shortB_size e.topic
  have e2 := pairB_size e.index
  have e3 := wordText_size e.time
  have e4 := shortB_size e.key
  have e5 := pairB_size e.body.size
  have e0 : ((⟨#[69]⟩ : ByteArray)).size = 1 := rfl
  clear hq hf
  generalize shortB e.topic = p1 at *
  generalize pairB e.index = p2 at *
  generalize wordText e.time = p3 at *
  generalize shortB e.key = p4 at *
  generalize pairB e.body.size = p5 at *
  obtain ⟨s1, hs1⟩ : ∃ s, s = ⟨#[69]⟩ ++ p1 := ⟨_, rfl⟩
  have c1 := fun W : World => run_string_add_sum (P := Tryz.prog) W ⟨#[69]⟩ p1 (by omega)
  have z1 : s1.size ≤ 22 := by rw [hs1, ByteArray.size_append]; omega
  rw [← hs1] at c1
  have HS1 := lH hs1
  clear hs1
  obtain ⟨s2, hs2⟩ : ∃ s, s = s1 ++ p2 := ⟨_, rfl⟩
  have c2 := fun W : World => run_string_add_sum (P := Tryz.prog) W s1 p2 (by omega)
  have z2 : s2.size ≤ 24 := by rw [hs2, ByteArray.size_append]; omega
  rw [← hs2] at c2
  have HS2 := lH hs2
  clear hs2
  obtain ⟨s3, hs3⟩ : ∃ s, s = s2 ++ p3 := ⟨_, rfl⟩
  have c3 := fun W : World => run_string_add_sum (P := Tryz.prog) W s2 p3 (by omega)
  have z3 : s3.size ≤ 28 := by rw [hs3, ByteArray.size_append]; omega
  rw [← hs3] at c3
  have HS3 := lH hs3
  clear hs3
  obtain ⟨s4, hs4⟩ : ∃ s, s = s3 ++ p4 := ⟨_, rfl⟩
  have c4 := fun W : World => run_string_add_sum (P := Tryz.prog) W s3 p4 (by omega)
  have z4 : s4.size ≤ 80 := by rw [hs4, ByteArray.size_append]; omega
  rw [← hs4] at c4
  have HS4 := lH hs4
  clear hs4
  obtain ⟨s5, hs5⟩ : ∃ s, s = s4 ++ p5 := ⟨_, rfl⟩
  have c5 := fun W : World => run_string_add_sum (P := Tryz.prog) W s4 p5 (by omega)
  have z5 : s5.size ≤ 90 := by rw [hs5, ByteArray.size_append]; omega
  rw [← hs5] at c5
  have HS5 := lH hs5
  clear hs5
  obtain ⟨s6, hs6⟩ : ∃ s, s = s5 ++ e.body := ⟨_, rfl⟩
  have c6 := fun W : World => run_string_add_sum (P := Tryz.prog) W s5 e.body (by omega)
  have z6 : s6.size ≤ 500 := by rw [hs6, ByteArray.size_append]; omega
  rw [← hs6] at c6
  have HS6 := lH hs6
  clear hs6
  have HB : Hid (Below w.heap.size w w) := Below.refl _ _
  go_enter Tryz.func108, Tryz.ntmps108
  go_wp2_with fail
  refine calls_named (fun w1 hw => ?_)
  have hz1 : w.heap.size + 1 ≤ w1.heap.size := by rw [hw]; first | omega | simp [World.setCell] <;> omega
  have hzz1 : w.heap.size ≤ w1.heap.size := by omega
  have hbn : Below w.heap.size w w1 := by rw [hw]; exact (by repeat with_reducible first | exact bR _ | apply bA | apply bD)
  replace HB := lH (below_then HB.out hbn HB.out.size)
  clear hbn
  have HXh : Hid (NewBox w1 (w.heap.size) [.string e.topic, .int .i64 e.index, .int .i64 e.time, .string e.key, .string e.body]) := by rw [Hid, hw]; exact ⟨by first | omega | (simp [World.setCell]; done) | (simp [World.setCell]; omega), fun o => by rcases o with _ | _ | _ | _ | _ | o <;> go_simp, fun o => by go_simp⟩
  obtain ⟨hkh, hxh, hfh⟩ := HXh.out
  clear hw
  refine (HO.out _).mono ?_
  rintro e w2 ⟨rfl, hb⟩
  have hzw2 : w1.heap.size ≤ w2.heap.size := hb.size
  have hzzw2 : w.heap.size ≤ w2.heap.size := by omega
  replace HB := lH (below_then HB.out hb HB.out.size)
  replace HXh := lH (HXh.out.below hb)
  clear hxh hfh hkh
  obtain ⟨hkh, hxh, hfh⟩ := HXh.out
  clear hb
  have l0 : ∀ v : Later w2, v.v.cell? ⟨w.heap.size, 0, none⟩ = some (.string e.topic) := fun v => (later_cell v _ _ hkh).trans (hxh 0)
  have l1 : ∀ v : Later w2, v.v.cell? ⟨w.heap.size, 1, none⟩ = some (.int .i64 e.index) := fun v => (later_cell v _ _ hkh).trans (hxh 1)
  have l2 : ∀ v : Later w2, v.v.cell? ⟨w.heap.size, 2, none⟩ = some (.int .i64 e.time) := fun v => (later_cell v _ _ hkh).trans (hxh 2)
  have l3 : ∀ v : Later w2, v.v.cell? ⟨w.heap.size, 3, none⟩ = some (.string e.key) := fun v => (later_cell v _ _ hkh).trans (hxh 3)
  have l4 : ∀ v : Later w2, v.v.cell? ⟨w.heap.size, 4, none⟩ = some (.string e.body) := fun v => (later_cell v _ _ hkh).trans (hxh 4)
  go_wp2_with fail
  refine wp_region_later (by kernel_rfl) (by kernel_rfl) ?_
  repeat (go_big_quiet_step ((first | with_reducible exact later_call (n1.out _) | with_reducible exact later_call (n2.out _) | with_reducible exact later_call (n3.out _) | with_reducible exact later_call (n4.out _) | with_reducible exact later_call (n5.out _))))
  refine wpQuiet_nil ?_
  intro w8 h8
  have hb8 := later_below h8
  have HB8 := lH (below_then HB.out hb8 HB.out.size)
  clear l0 l1 l2 l3 l4 h8 hb8
  go_wp2
  refine bodyPost_ret (v := .tuple #[.string s6, .bool true]) (by simp [results, Tryz.results108, go_sem]) rfl ?_
  exact ⟨by rw [HM.out, HS6.out, HS5.out, HS4.out, HS3.out, HS2.out, HS1.out], HB8.out⟩
set_option maxRecDepth 100000 in
theorem implLeafHash_c (width : Int) (e : Ent) (w : World) (hf : e.fits) : Calls Tryz.prog 148 #[.int .i64 width, .agg #[.string e.topic, .int .i64 e.index, .int .i64 e.time, .string e.key, .string e.body]] w fun r w' => r = .returned (.tuple #[.string (leafHashM width e), .bool (leafHashOk width e)]) ∧ Below w.heap.size w w' := by
 have HO := lH (fun W => implLeafText_c e W hf)
 have HD := lH (fun W => implDigest_c width 0 (leafTextM e) W (by have := leafTextM_size e; unfold maxLen; omega))
 have HB1 : Hid (leafHashM width e = if entryOk e = true then digM width 0 (leafTextM e) else ⟨#[]⟩) := lH rfl
 have HB2 : Hid (leafHashOk width e = (entryOk e && digOk width 0 (leafTextM e))) := lH rfl
 clear hf
 generalize entryOk e = q at *
 generalize leafTextM e = tx at *
 generalize leafHashM width e = lh at *
 generalize leafHashOk width e = lo at *
 generalize digM width 0 tx = dg at *
 generalize digOk width 0 tx = dk at *
 have HB : Hid (Below w.heap.size w w) := Below.refl _ _
 go_enter Tryz.func148, Tryz.ntmps148
 go_wp2_with fail
 refine calls_named (fun w1 hw => ?_)
 have hz1 : w.heap.size + 1 ≤ w1.heap.size := by rw [hw]; first | omega | simp [World.setCell] <;> omega
 have hzz1 : w.heap.size ≤ w1.heap.size := by omega
 have hbn : Below w.heap.size w w1 := by rw [hw]; exact (by repeat with_reducible first | exact bR _ | apply bA | apply bD)
 replace HB := lH (below_then HB.out hbn HB.out.size)
 clear hbn
 have HXh : Hid (NewBox w1 (w.heap.size) [.string e.topic, .int .i64 e.index, .int .i64 e.time, .string e.key, .string e.body]) := by rw [Hid, hw]; exact ⟨by first | omega | (simp [World.setCell]; done) | (simp [World.setCell]; omega), fun o => by rcases o with _ | _ | _ | _ | _ | o <;> go_simp, fun o => by go_simp⟩
 obtain ⟨hkh, hxh, hfh⟩ := HXh.out
 clear hw
 refine (HO.out _).mono ?_
 rintro e w2 ⟨rfl, hb⟩
 have hzw2 : w1.heap.size ≤ w2.heap.size := hb.size
 have hzzw2 : w.heap.size ≤ w2.heap.size := by omega
 replace HB := lH (below_then HB.out hb HB.out.size)
 replace HXh := lH (HXh.out.below hb)
 clear hxh hfh hkh
 obtain ⟨hkh, hxh, hfh⟩ := HXh.out
 clear hb
 rcases q with _ | _
 ·go_wp2
  refine bodyPost_ret (v := .tuple #[.string ⟨#[]⟩, .bool false]) (by simp [results, Tryz.results148, go_sem]) rfl ?_
  exact ⟨by rw [HB1.out, HB2.out]; rfl, HB.out⟩
 ·go_wp2_with fail
  refine calls_named (fun w3 hw => ?_)
  have hz3 : w2.heap.size + 0 ≤ w3.heap.size := by rw [hw]; first | omega | simp [World.setCell] <;> omega
  have hzz3 : w.heap.size ≤ w3.heap.size := by omega
  have hbn : Below w2.heap.size w2 w3 := by rw [hw]; exact (by repeat with_reducible first | exact bR _ | apply bA | apply bD)
  replace HB := lH (below_then HB.out hbn HB.out.size)
  replace HXh := lH (HXh.out.below hbn)
  clear hxh hfh hkh
  obtain ⟨hkh, hxh, hfh⟩ := HXh.out
  clear hbn
  clear hw
  refine (HD.out _).mono ?_
  rintro e w4 ⟨rfl, hb⟩
  have hzw4 : w3.heap.size ≤ w4.heap.size := hb.size
  have hzzw4 : w.heap.size ≤ w4.heap.size := by omega
  replace HB := lH (below_then HB.out hb HB.out.size)
  replace HXh := lH (HXh.out.below hb)
  clear hxh hfh hkh
  obtain ⟨hkh, hxh, hfh⟩ := HXh.out
  clear hb
  go_wp2
  refine bodyPost_ret (v := .tuple #[.string dg, .bool dk]) (by simp [results, Tryz.results148, go_sem]) rfl ?_
  exact ⟨by rw [HB1.out, HB2.out]; rfl, HB.out⟩
set_option maxRecDepth 100000 in
theorem specLeafHash_c (width : Int) (e : Ent) (w : World) (hf : e.fits) : Calls Tryz.prog 128 #[.int .i64 width, .agg #[.string e.topic, .int .i64 e.index, .int .i64 e.time, .string e.key, .string e.body]] w fun r w' => r = .returned (.tuple #[.string (leafHashM width e), .bool (leafHashOk width e)]) ∧ Below w.heap.size w w' := by
 have HO := lH (fun W => specLeafText_c e W hf)
 have HD := lH (fun W => specDigest_c width 0 (leafTextM e) W (by have := leafTextM_size e; unfold maxLen; omega))
 have HB1 : Hid (leafHashM width e = if entryOk e = true then digM width 0 (leafTextM e) else ⟨#[]⟩) := lH rfl
 have HB2 : Hid (leafHashOk width e = (entryOk e && digOk width 0 (leafTextM e))) := lH rfl
 clear hf
 generalize entryOk e = q at *
 generalize leafTextM e = tx at *
 generalize leafHashM width e = lh at *
 generalize leafHashOk width e = lo at *
 generalize digM width 0 tx = dg at *
 generalize digOk width 0 tx = dk at *
 have HB : Hid (Below w.heap.size w w) := Below.refl _ _
 go_enter Tryz.func128, Tryz.ntmps128
 go_wp2_with fail
 refine calls_named (fun w1 hw => ?_)
 have hz1 : w.heap.size + 1 ≤ w1.heap.size := by rw [hw]; first | omega | simp [World.setCell] <;> omega
 have hzz1 : w.heap.size ≤ w1.heap.size := by omega
 have hbn : Below w.heap.size w w1 := by rw [hw]; exact (by repeat with_reducible first | exact bR _ | apply bA | apply bD)
 replace HB := lH (below_then HB.out hbn HB.out.size)
 clear hbn
 have HXh : Hid (NewBox w1 (w.heap.size) [.string e.topic, .int .i64 e.index, .int .i64 e.time, .string e.key, .string e.body]) := by rw [Hid, hw]; exact ⟨by first | omega | (simp [World.setCell]; done) | (simp [World.setCell]; omega), fun o => by rcases o with _ | _ | _ | _ | _ | o <;> go_simp, fun o => by go_simp⟩
 obtain ⟨hkh, hxh, hfh⟩ := HXh.out
 clear hw
 refine (HO.out _).mono ?_
 rintro e w2 ⟨rfl, hb⟩
 have hzw2 : w1.heap.size ≤ w2.heap.size := hb.size
 have hzzw2 : w.heap.size ≤ w2.heap.size := by omega
 replace HB := lH (below_then HB.out hb HB.out.size)
 replace HXh := lH (HXh.out.below hb)
 clear hxh hfh hkh
 obtain ⟨hkh, hxh, hfh⟩ := HXh.out
 clear hb
 rcases q with _ | _
 ·go_wp2
  refine bodyPost_ret (v := .tuple #[.string ⟨#[]⟩, .bool false]) (by simp [results, Tryz.results128, go_sem]) rfl ?_
  exact ⟨by rw [HB1.out, HB2.out]; rfl, HB.out⟩
 ·go_wp2_with fail
  refine calls_named (fun w3 hw => ?_)
  have hz3 : w2.heap.size + 0 ≤ w3.heap.size := by rw [hw]; first | omega | simp [World.setCell] <;> omega
  have hzz3 : w.heap.size ≤ w3.heap.size := by omega
  have hbn : Below w2.heap.size w2 w3 := by rw [hw]; exact (by repeat with_reducible first | exact bR _ | apply bA | apply bD)
  replace HB := lH (below_then HB.out hbn HB.out.size)
  replace HXh := lH (HXh.out.below hbn)
  clear hxh hfh hkh
  obtain ⟨hkh, hxh, hfh⟩ := HXh.out
  clear hbn
  clear hw
  refine (HD.out _).mono ?_
  rintro e w4 ⟨rfl, hb⟩
  have hzw4 : w3.heap.size ≤ w4.heap.size := hb.size
  have hzzw4 : w.heap.size ≤ w4.heap.size := by omega
  replace HB := lH (below_then HB.out hb HB.out.size)
  replace HXh := lH (HXh.out.below hb)
  clear hxh hfh hkh
  obtain ⟨hkh, hxh, hfh⟩ := HXh.out
  clear hb
  go_wp2
  refine bodyPost_ret (v := .tuple #[.string dg, .bool dk]) (by simp [results, Tryz.results128, go_sem]) rfl ?_
  exact ⟨by rw [HB1.out, HB2.out]; rfl, HB.out⟩
end
section
open Go.RowKit Go.Maps Go.WideMaps
theorem strLaw : Keyed Tryz.prog 9 := string_keyed Tryz.underlying9
theorem zeroInt (w : World) : (zeroValue 3).run Tryz.prog w = .ok (.int .i64 0) w := by kernel_rfl
def Counts (l : List Ent) (k : Nat) (D : DataW Unit) : Prop :=
 Maps.IsMap D ∧ ∀ t : ByteArray, D.atKey (.string t.data.toList) (.lit (.int .i64 0)) = .lit (.int .i64 (cnt (l.take k) t : Nat))
theorem counts_0 (l : List Ent) : Counts l 0 (.map []) := ⟨Maps.isMap_empty, fun t => rfl⟩
theorem counts_succ {l : List Ent} {k : Nat} {D : DataW Unit} {e : Ent} (h : Counts l k D) (he : l[k]? = some e) : Counts l (k + 1) (D.put (.string e.topic.data.toList) (.lit (.int .i64 ((cnt (l.take k) e.topic : Nat) + 1)))) := by
 refine ⟨h.1.put _ _, fun t => ?_⟩
 by_cases ht : e.topic = t
 ·rw [← ht, Maps.atKey_put_same (k := .string e.topic.data.toList) h.1 (show WideAt.IsKeyLit (.string _) from trivial), cnt_yes he rfl]; rfl
 ·rw [Maps.atKey_put_other (fun e1 => ht (ByteArray.ext (Array.toList_inj.1 (Lit.string.inj e1).symm))), h.2 t, cnt_no he ht]
theorem ownsMap_below {w w' : World} {P : Program} {k : TypeId} {R : Value → Option (DataW Unit × List MemPlace)} {b n : Nat} {D : DataW Unit} (h : w.ownsMap P k R b n D) (hb : Below w.heap.size w w') : w'.ownsMap P k R b n D :=
 h.kept (row := none) ⟨hb.os, hb.tape, hb.output, hb.size, fun i hi _ => hb.block i hi⟩ (by simp)
set_option maxRecDepth 100000 in
theorem implLogOk_c (A : Option Addr) (c lo hi n : Nat) (l : List Ent) (w : World) (hr : Rd w lo hi A (ents l)) (hn : l.length = n) (hl : n ≤ 1048576) (hf : ∀ x ∈ l, x.fits) :
  Calls Tryz.prog 86 #[.agg #[.slice A n c]] w fun e w' => e = .returned (.bool (logOk l)) ∧ Below w.heap.size w w' := by
 have HN := lH hn
 have HF := lH hf
 clear hn hf
 have hmm := @run_makeMap Tryz.prog
 go_enter Tryz.func86, Tryz.ntmps86
 rcases (show n ≤ 512 ∨ 512 < n by omega) with h5 | h5
 ·go_wp2
  go_loopw [14] (fun i wr => ∃ (k : Nat) (D : DataW Unit), k ≤ n ∧ i = .int .i64 k ∧ rightTo l k = true ∧ Counts l k D ∧ wr.ownsMap Tryz.prog 9 (plainElem Tryz.prog 3) (w.heap.size + 1) k D ∧ Below w.heap.size w wr) (fun i _ => n - (intOf i).toNat)
  case atStart => exact ⟨0, _, Nat.zero_le _, rfl, rfl, counts_0 l, by have := World.ownsMap_made (H := Unit) (w.alloc (.cells #[.slice A n c] 26)) Tryz.prog 9 (plainElem Tryz.prog 3); simpa using this, ((Below.refl _ _).alloc (Nat.le_refl _) _).alloc (by first | omega | (simp; done) | (simp; omega)) _⟩
  case round =>
   obtain ⟨k, D, hk, rfl, hrt, hct, hown, hb0⟩ := hrel
   have HRT := lH hrt
   have HCT := lH hct
   clear hrt hct
   by_cases hlt : k < n
   ·obtain ⟨b, off, x, rfl, _, _, hb, hks, hcell⟩ := (hr.below hb0).flat (f := Ent.cells) (m := 5) (fun _ => rfl) (by omega) (k := k) (by rw [HN.out]; exact hlt)
    have hc0 : wr.cell? ⟨b, off + k * 5, none⟩ = some (.string x.topic) := hcell 0 _ rfl
    have hc1 : wr.cell? ⟨b, off + k * 5 + 1, none⟩ = some (.int .i64 x.index) := hcell 1 _ rfl
    have hc2 : wr.cell? ⟨b, off + k * 5 + 2, none⟩ = some (.int .i64 x.time) := hcell 2 _ rfl
    have hc3 : wr.cell? ⟨b, off + k * 5 + 3, none⟩ = some (.string x.key) := hcell 3 _ rfl
    have hc4 : wr.cell? ⟨b, off + k * 5 + 4, none⟩ = some (.string x.body) := hcell 4 _ rfl
    have HK := lH hks
    have HB0 := lH hb0
    have HO := lH hown
    have HX := lH (HF.out x (List.mem_of_getElem? hks))
    have hle := cnt_take_le l x.topic k
    clear hcell hks hr hb0 hown
    go_wp2_with fail
    refine (implEntryOk_c x _ HX.out).mono ?_
    rintro e w2 ⟨rfl, hb2⟩
    have hd0 : w2.cell? ⟨wr.heap.size, 0, none⟩ = some (.string x.topic) := cell_later hb2 (by go_simp)
    have hd1 : w2.cell? ⟨wr.heap.size, 1, none⟩ = some (.int .i64 x.index) := cell_later hb2 (by go_simp)
    have hq2 : wr.heap.size < w2.heap.size := by have := hb2.size; simp at this; omega
    have HB2 : Hid (Below w.heap.size w w2) := below_then (HB0.out.alloc HB0.out.size _) hb2 (by have := HB0.out.size; simp; omega)
    have hown2 := ownsMap_below (HO.out.alloc _) hb2
    clear hb2 hc0 hc1 hc2 hc3 hc4
    rcases h1 : entryOk x with _ | _
    ·clear hown2
     go_wp2
     go_ret
     exact ⟨ret_bool (logOk_bad (by rw [HN.out]; exact hlt) (by rw [rightAt_eq HK.out, h1]; rfl)).symm, HB2.out⟩
    ·have H1 := lH h1
     clear h1
     obtain ⟨tp, htp⟩ : ∃ tp, tp = x.topic := ⟨_, rfl⟩
     have hkey : keyOf Tryz.prog 9 (.string x.topic) = some (.string x.topic.data.toList) := keyOf_string_mk Tryz.underlying9 HX.out.2.2.1
     obtain ⟨z, hrun, hat, hwz⟩ := hown2.lookup_int strLaw Tryz.underlying192 Tryz.underlying3 (zeroInt _) hkey
     have hzc : z = (cnt (l.take k) x.topic : Nat) := by
      have := (HCT.out.2 x.topic).symm.trans hat
      injection this with this
      injection this with _ this
      exact this.symm
     subst hzc
     have HAT := lH hat
     clear hat htp
     rcases (show ((cnt (l.take k) x.topic : Nat) : Int) = x.index ∨ ((cnt (l.take k) x.topic : Nat) : Int) ≠ x.index by omega) with h6 | h6
     ·have hbq : (x.index != ((cnt (l.take k) x.topic : Nat) : Int)) = false := by simp [h6]
      have HR1 : Hid (rightTo l (k + 1) = true) := by rw [Hid, rightTo_succ, HRT.out, rightAt_eq HK.out, H1.out]; simp [h6]
      have hc6 := counts_succ HCT.out HK.out
      rw [h6] at hc6
      have HC1 := lH hc6
      clear hc6
      have hub : x.index ≤ 512 := by omega
      have hlb : 0 ≤ x.index := by omega
      generalize hgz : cnt (l.take k) x.topic = y at *
      go_wp2_with (first
       | (at_mapUpdate; go_loud (refine wpList_mapUpdate_own _ rfl _ _ _ 192 rfl 9 3 strLaw Tryz.underlying192 _ (w.heap.size + 1) k _ rfl hown2 (by unfold maxLen; omega) _ _ _ rfl rfl hkey _ [] (plainElem_int Tryz.underlying3 (WalkArith.wf_i64 (by omega))) ?_))
       | go_in)
      intro w3 hown3 hgrow3
      have HB3 := lH (HB2.out.grown hgrow3 HB2.out.size (fun j hj => by cases hj; omega))
      clear hgrow3 hown2 hrun hkey
      go_wp2
      go_roundw
      case rel => exact ⟨k + 1, _, by omega, by go_num, HR1.out, HC1.out, hown3, HB3.out⟩
      case measure => simp [intOf]; omega
     ·have hbq : (x.index != ((cnt (l.take k) x.topic : Nat) : Int)) = true := by simp [bne_iff_ne]; omega
      generalize hgz : cnt (l.take k) x.topic = y at *
      clear hown2
      go_wp2
      go_ret
      exact ⟨ret_bool (logOk_bad (by rw [HN.out]; exact hlt) (by rw [rightAt_eq HK.out, H1.out, hgz]; simp [h6])).symm, HB2.out⟩
   ·obtain rfl : k = n := by omega
    have HB0 := lH hb0
    clear hb0 hr hown
    go_wp2
    go_ret
    exact ⟨ret_bool (by rw [logOk, HN.out, HRT.out]; simp [h5]), HB0.out⟩
 ·go_wp2
  go_ret
  exact ⟨ret_bool (logOk_big (by rw [HN.out]; exact h5)).symm, (Below.refl _ _).alloc (Nat.le_refl _) _⟩
set_option maxRecDepth 100000 in
theorem specLogOk_c (A : Option Addr) (c lo hi n : Nat) (l : List Ent) (w : World) (hr : Rd w lo hi A (ents l)) (hn : l.length = n) (hl : n ≤ 1048576) (hcap : n ≤ c) (hf : ∀ x ∈ l, x.fits) :
  Calls Tryz.prog 78 #[.agg #[.slice A n c]] w fun e w' => e = .returned (.bool (logOk l)) ∧ Below w.heap.size w w' := by
 have HN := lH hn
 have HF := lH hf
 clear hn hf
 go_enter Tryz.func78, Tryz.ntmps78
 rcases (show n ≤ 512 ∨ 512 < n by omega) with h5 | h5
 ·go_wp2
  go_loopw [3] (fun i wr => ∃ (k : Nat), k ≤ n ∧ i = .int .i64 k ∧ rightTo l k = true ∧ Below (w.heap.size + 1) (w.alloc (.cells #[.slice A n c] 26)) wr) (fun i _ => n - (intOf i).toNat)
  case atStart => exact ⟨0, Nat.zero_le _, rfl, rfl, Below.refl _ _⟩
  case round =>
   obtain ⟨k, hk, rfl, hrt, hb0⟩ := hrel
   have HRT := lH hrt
   clear hrt
   have hx0 : wr.cell? ⟨w.heap.size, 0, none⟩ = some (.slice A n c) := (hb0.cell (p := ⟨w.heap.size, 0, none⟩) (by simp)).trans (by go_simp)
   have hz0 : w.heap.size < wr.heap.size := by have := hb0.size; simp at this; omega
   have HB0 : Hid (Below w.heap.size w wr) := ((Below.refl _ _).alloc (Nat.le_refl _) _).trans (hb0.mono (by omega))
   by_cases hlt : k < n
   ·obtain ⟨b, off, x, rfl, _, _, hb, hks, hcell⟩ := (hr.below HB0.out).flat (f := Ent.cells) (m := 5) (fun _ => rfl) (by omega) (k := k) (by rw [HN.out]; exact hlt)
    have hc0 : wr.cell? ⟨b, off + k * 5, none⟩ = some (.string x.topic) := hcell 0 _ rfl
    have hc1 : wr.cell? ⟨b, off + k * 5 + 1, none⟩ = some (.int .i64 x.index) := hcell 1 _ rfl
    have hc2 : wr.cell? ⟨b, off + k * 5 + 2, none⟩ = some (.int .i64 x.time) := hcell 2 _ rfl
    have hc3 : wr.cell? ⟨b, off + k * 5 + 3, none⟩ = some (.string x.key) := hcell 3 _ rfl
    have hc4 : wr.cell? ⟨b, off + k * 5 + 4, none⟩ = some (.string x.body) := hcell 4 _ rfl
    have HK := lH hks
    have HBR := lH hb0
    have HX := lH (HF.out x (List.mem_of_getElem? hks))
    have hle := cnt_take_le l x.topic k
    have HRD := lH ((hr.below HB0.out).entsTake k)
    clear hcell hks hr hb0
    have hI1 : (0 : Int) ≤ (k : Int) := by omega
    have hI2 : (k : Int) < (n : Int) := by omega
    have hI3 : (k : Int) ≤ (c : Int) := by omega
    generalize hW : wr.alloc (.cells #[.string x.topic, .int .i64 x.index, .int .i64 x.time, .string x.key, .string x.body] 41) = W2
    have hWB : Below wr.heap.size wr W2 := by rw [← hW]; exact (Below.refl _ _).alloc (Nat.le_refl _) _
    have hl0 : ∀ v : Later W2, v.v.cell? ⟨w.heap.size, 0, none⟩ = some (.slice (some ⟨b, off, none⟩) n c) := fun v => (later_cell v _ _ (Nat.lt_of_lt_of_le hz0 hWB.size)).trans ((hWB.cell (p := ⟨w.heap.size, 0, none⟩) hz0).trans hx0)
    have he0 : ∀ v : Later W2, v.v.cell? ⟨wr.heap.size, 0, none⟩ = some (.string x.topic) := fun v => (later_cell v _ _ (by rw [← hW]; simp)).trans (by rw [← hW]; clear hW; go_simp)
    have he1 : ∀ v : Later W2, v.v.cell? ⟨wr.heap.size, 1, none⟩ = some (.int .i64 x.index) := fun v => (later_cell v _ _ (by rw [← hW]; simp)).trans (by rw [← hW]; clear hW; go_simp)
    have he2 : ∀ v : Later W2, v.v.cell? ⟨wr.heap.size, 2, none⟩ = some (.int .i64 x.time) := fun v => (later_cell v _ _ (by rw [← hW]; simp)).trans (by rw [← hW]; clear hW; go_simp)
    have he3 : ∀ v : Later W2, v.v.cell? ⟨wr.heap.size, 3, none⟩ = some (.string x.key) := fun v => (later_cell v _ _ (by rw [← hW]; simp)).trans (by rw [← hW]; clear hW; go_simp)
    have he4 : ∀ v : Later W2, v.v.cell? ⟨wr.heap.size, 4, none⟩ = some (.string x.body) := fun v => (later_cell v _ _ (by rw [← hW]; simp)).trans (by rw [← hW]; clear hW; go_simp)
    have HW := lH hW
    have HWB := lH hWB
    have hkl : (l.take k).length = k := by rw [List.length_take, HN.out]; omega
    have HC : ∀ (v : Later W2) (c' : Nat), Hid (Calls Tryz.prog 127 #[.slice (some ⟨b, off, none⟩) k c', .string x.topic] v.v fun e w' => e = .returned (.int .i64 (cnt (l.take k) x.topic : Nat)) ∧ v.v = w') :=
     fun v c' => l09Count_c _ c' _ _ k _ _ _ ((HRD.out.below HWB.out).below v.h) hkl (by omega)
    have HKL := lH hkl
    clear hW hWB hkl
    rcases h1 : entryOk x with _ | _
    ·have H1 := lH h1
     clear h1
     go_wp2_with fail
     rw [HW.out]
     refine wp_region_later (by kernel_rfl) (by kernel_rfl) ?_
     repeat (go_big_quiet_step ((exact later_vcall (specEntryOk_c x _ HX.out) (bool_v H1.out))))
     refine wpQuiet_nil ?_
     intro w2 h0
     have HB2 := lH (later_below h0)
     clear hl0 he0 he1 he2 he3 he4 h0 HC
     go_wp2
     go_ret
     exact ⟨ret_bool (logOk_bad (by rw [HN.out]; exact hlt) (by rw [rightAt_eq HK.out, H1.out]; rfl)).symm, below_then HB0.out (HWB.out.trans (HB2.out.mono HWB.out.size)) HB0.out.size⟩
    ·have H1 := lH h1
     clear h1
     rcases (show ((cnt (l.take k) x.topic : Nat) : Int) = x.index ∨ ((cnt (l.take k) x.topic : Nat) : Int) ≠ x.index by omega) with h6 | h6
     ·have HR1 : Hid (rightTo l (k + 1) = true) := by rw [Hid, rightTo_succ, HRT.out, rightAt_eq HK.out, H1.out]; simp [h6]
      have hbq : (((cnt (l.take k) x.topic : Nat) : Int) != x.index) = false := by simp [h6]
      go_wp2_with fail
      rw [HW.out]
      refine wp_region_later (by kernel_rfl) (by kernel_rfl) ?_
      repeat (go_big_quiet_step ((first | exact later_vcall (specEntryOk_c x _ HX.out) (bool_v H1.out) | exact later_pure (HC _ _).out)))
      refine wpQuiet_nil ?_
      intro w2 h0
      have HB2 := lH (later_below h0)
      clear hl0 he0 he1 he2 he3 he4 h0 HC
      go_wp2
      go_roundw
      case rel => exact ⟨k + 1, by omega, by go_num, HR1.out, (HBR.out.trans (HWB.out.mono (by omega))).trans (HB2.out.mono (by have := HWB.out.size; omega))⟩
      case measure => simp [intOf]; omega
     ·have hbq : (((cnt (l.take k) x.topic : Nat) : Int) != x.index) = true := by rw [bne_iff_ne]; exact h6
      go_wp2_with fail
      rw [HW.out]
      refine wp_region_later (by kernel_rfl) (by kernel_rfl) ?_
      repeat (go_big_quiet_step ((first | exact later_vcall (specEntryOk_c x _ HX.out) (bool_v H1.out) | exact later_pure (HC _ _).out)))
      refine wpQuiet_nil ?_
      intro w2 h0
      have HB2 := lH (later_below h0)
      clear hl0 he0 he1 he2 he3 he4 h0 HC
      go_wp2
      go_ret
      exact ⟨ret_bool (logOk_bad (by rw [HN.out]; exact hlt) (by rw [rightAt_eq HK.out, H1.out]; simp [h6])).symm, below_then HB0.out (HWB.out.trans (HB2.out.mono HWB.out.size)) HB0.out.size⟩
   ·obtain rfl : k = n := by omega
    clear hb0 hr
    go_wp2
    go_ret
    exact ⟨ret_bool (by rw [logOk, HN.out, HRT.out]; simp [h5]), HB0.out⟩
 ·go_wp2
  go_ret
  exact ⟨ret_bool (logOk_big (by rw [HN.out]; exact h5)).symm, (Below.refl _ _).alloc (Nat.le_refl _) _⟩
end
section
open Go.RowKit
theorem strs_app (a b : List ByteArray) : strs (a ++ b) = strs a ++ strs b := by simp [strs]
theorem ent_cells {w : World} {lo hi : Nat} {A : Option Addr} {l : List Ent} (h : Rd w lo hi A (ents l)) {k : Nat} (hk : k < l.length) : ∃ b off x, A = some ⟨b, off, none⟩ ∧ b < w.heap.size ∧ l[k]? = some x ∧
  w.cell? ⟨b, off + k * 5, none⟩ = some (.string x.topic) ∧ w.cell? ⟨b, off + k * 5 + 1, none⟩ = some (.int .i64 x.index) ∧ w.cell? ⟨b, off + k * 5 + 2, none⟩ = some (.int .i64 x.time) ∧ w.cell? ⟨b, off + k * 5 + 3, none⟩ = some (.string x.key) ∧ w.cell? ⟨b, off + k * 5 + 4, none⟩ = some (.string x.body) := by
 obtain ⟨b, off, x, h1, _, _, h4, h5, h6⟩ := Rd.flat (f := Ent.cells) (m := 5) (fun _ => rfl) (by omega) h hk
 exact ⟨b, off, x, h1, h4, h5, h6 0 _ rfl, h6 1 _ rfl, h6 2 _ rfl, h6 3 _ rfl, h6 4 _ rfl⟩
def hashesM (width : Int) (l : List Ent) : List ByteArray := if inR width 1 32 && logOk l then l.map (leafHashM width) else []
def hashesK (width : Int) (l : List Ent) : Bool := inR width 1 32 && logOk l
set_option maxRecDepth 100000 in
theorem hashesOf_c (width : Int) (A : Option Addr) (c lo hi n : Nat) (l : List Ent) (w : World) (hr : Rd w lo hi A (ents l)) (hn : l.length = n) (hl : n ≤ 1048576) (hf : ∀ x ∈ l, x.fits) :
  Calls Tryz.prog 90 #[.int .i64 width, .agg #[.slice A n c]] w fun e w' => ∃ A' c', e = .returned (.slice A' n c') ∧ w'.ownsRow w.heap.size 9 1 (.slice A' n c') n (strs (l.map (leafHashM width))) ∧ Below w.heap.size w w' := by
 have HN := lH hn
 have HR := lH hr
 have HF := lH hf
 obtain ⟨L, hL⟩ : ∃ L, L = l.map (leafHashM width) := ⟨_, rfl⟩
 have HLL := lH hL
 rw [← hL]
 clear hn hr hf hL
 go_enter Tryz.func90, Tryz.ntmps90
 go_wp2
 go_loopw [5, 13] (fun v i wx => ∃ (k : Nat) (A0 : Option Addr) (c0 : Nat), k ≤ n ∧ i = .int .i64 k ∧ v = .slice A0 k c0 ∧ wx.ownsRow w.heap.size 9 1 (.slice A0 k c0) k (strs (L.take k)) ∧ Below w.heap.size w wx ) (fun _ i _ => n - (intOf i).toNat)
 case atStart => exact ⟨0, none, 0, Nat.zero_le _, rfl, rfl, World.ownsRow_nil _ _ _ _, (Below.refl _ _).alloc (Nat.le_refl _) _⟩
 case round =>
  obtain ⟨k, A0, c0, hk, rfl, rfl, how, hbr⟩ := hrel
  have HBR := lH hbr
  have HOW := lH how
  clear hbr how
  by_cases hlt : k < n
  ·skip
   obtain ⟨b, off, x, rfl, hb, hx, hc⟩ := ent_cells (HR.out.below HBR.out) (k := k) (by rw [HN.out]; exact hlt)
   have hc0 := hc.1
   have hc1 := hc.2.1
   have hc2 := hc.2.2.1
   have hc3 := hc.2.2.2.1
   have hc4 := hc.2.2.2.2
   have HT : Hid (L.take (k + 1) = L.take k ++ [leafHashM width x]) := lH (take_succ (by rw [HLL.out, List.getElem?_map, hx]; rfl))
   have HLH := lH (fun W => implLeafHash_c width x W (HF.out x (List.mem_of_getElem? hx)))
   have hI : (k : Int) < n := by omega
   clear hc hx
   generalize leafHashM width x = lh at *
   generalize leafHashOk width x = lk at *
   go_wp2_with fail
   refine (HLH.out _).mono ?_
   rintro e w1 ⟨rfl, hb1⟩
   have HB1 := lH (below_then (HBR.out.alloc HBR.out.size _) hb1 (by first | exact HBR.out.size | (have := HBR.out.size; simp; omega)))
   have HO1 := lH (row_below (HOW.out.alloc _) hb1)
   have hz1 := HB1.out.size
   clear hb1 HOW hc0 hc1 hc2 hc3 hc4
   go_wp2_with (at_builtin; refine app1Str rfl _ _ rfl w.heap.size _ _ _ rfl (HO1.out.alloc _) w1.heap.size lh rfl (NewBox.new w1 _ _) (by omega) (by first | omega | (simp; done) | (simp; omega)) ?_)
   intro v2 w2 hown2 hg2
   have hon := grown_only (HO1.out.alloc _) hg2
   obtain ⟨A2, c2, rfl, _, _, _⟩ := ownsRow_slice hown2
   have HB2 : Hid (Below w.heap.size w w2) := below_only (HB1.out.alloc HB1.out.size _) hon (Nat.le_refl _) (by simp; omega)
   rw [← strs_app, ← HT.out] at hown2
   have HO2 := lH hown2
   clear hown2 hg2 hon HO1
   go_wp2
   go_roundw
   case measure => simp [intOf]; omega
   case rel => exact ⟨k + 1, A2, c2, by omega, by go_num, rfl, HO2.out, HB2.out⟩
  ·obtain rfl : k = n := by omega
   have hlt : L.take k = L := List.take_of_length_le (by rw [HLL.out, List.length_map, HN.out]; exact Nat.le_refl _)
   rw [hlt] at HOW
   clear hlt
   go_wp2
   go_ret
   exact ⟨A0, c0, rfl, HOW.out, HBR.out⟩
set_option maxRecDepth 100000 in
theorem l09Hashes_c (width : Int) (A : Option Addr) (c lo hi n : Nat) (l : List Ent) (w : World) (hr : Rd w lo hi A (ents l)) (hn : l.length = n) (hl : n ≤ 1048576) (hf : ∀ x ∈ l, x.fits) :
  Calls Tryz.prog 79 #[.int .i64 width, .slice A n c] w fun e w' => ∃ A' c', e = .returned (.slice A' n c') ∧ w'.ownsRow w.heap.size 9 1 (.slice A' n c') n (strs (l.map (leafHashM width))) ∧ Below w.heap.size w w' := by
 have HN := lH hn
 have HR := lH hr
 have HF := lH hf
 obtain ⟨L, hL⟩ : ∃ L, L = l.map (leafHashM width) := ⟨_, rfl⟩
 have HLL := lH hL
 rw [← hL]
 have hrow := row_made w 9 0
 have hbl : Below w.heap.size w (w.alloc (.cells #[] 9)) := (Below.refl _ _).alloc (Nat.le_refl _) _
 have HROW := lH hrow
 have HBL := lH hbl
 clear hn hr hf hL hrow hbl
 go_enter Tryz.func79, Tryz.ntmps79
 go_wp2
 go_loopw [5, 6] (fun v i wx => ∃ (k : Nat) (A0 : Option Addr) (c0 : Nat), k ≤ n ∧ i = .int .i64 k ∧ v = .slice A0 k c0 ∧ wx.ownsRow w.heap.size 9 1 (.slice A0 k c0) k (strs (L.take k)) ∧ Below w.heap.size w wx ) (fun _ i _ => n - (intOf i).toNat)
 case atStart => exact ⟨0, _, 0, Nat.zero_le _, rfl, rfl, HROW.out, HBL.out⟩
 case round =>
  obtain ⟨k, A0, c0, hk, rfl, rfl, how, hbr⟩ := hrel
  have HBR := lH hbr
  have HOW := lH how
  clear hbr how
  by_cases hlt : k < n
  ·skip
   obtain ⟨b, off, x, rfl, hb, hx, hc⟩ := ent_cells (HR.out.below HBR.out) (k := k) (by rw [HN.out]; exact hlt)
   have hc0 := hc.1
   have hc1 := hc.2.1
   have hc2 := hc.2.2.1
   have hc3 := hc.2.2.2.1
   have hc4 := hc.2.2.2.2
   have HT : Hid (L.take (k + 1) = L.take k ++ [leafHashM width x]) := lH (take_succ (by rw [HLL.out, List.getElem?_map, hx]; rfl))
   have HLH := lH (fun W => specLeafHash_c width x W (HF.out x (List.mem_of_getElem? hx)))
   have hI : (k : Int) < n := by omega
   clear hc hx
   generalize leafHashM width x = lh at *
   generalize leafHashOk width x = lk at *
   go_wp2_with fail
   refine (HLH.out _).mono ?_
   rintro e w1 ⟨rfl, hb1⟩
   have HB1 := lH (below_then HBR.out hb1 (by first | exact HBR.out.size | (have := HBR.out.size; simp; omega)))
   have HO1 := lH (row_below HOW.out hb1)
   have hz1 := HB1.out.size
   clear hb1 HOW hc0 hc1 hc2 hc3 hc4
   go_wp2_with (at_builtin; refine app1Str rfl _ _ rfl w.heap.size _ _ _ rfl (HO1.out.alloc _) w1.heap.size lh rfl (NewBox.new w1 _ _) (by omega) (by first | omega | (simp; done) | (simp; omega)) ?_)
   intro v2 w2 hown2 hg2
   have hon := grown_only (HO1.out.alloc _) hg2
   obtain ⟨A2, c2, rfl, _, _, _⟩ := ownsRow_slice hown2
   have HB2 : Hid (Below w.heap.size w w2) := below_only (HB1.out.alloc HB1.out.size _) hon (Nat.le_refl _) (by simp; omega)
   rw [← strs_app, ← HT.out] at hown2
   have HO2 := lH hown2
   clear hown2 hg2 hon HO1
   go_wp2
   go_roundw
   case measure => simp [intOf]; omega
   case rel => exact ⟨k + 1, A2, c2, by omega, by go_num, rfl, HO2.out, HB2.out⟩
  ·obtain rfl : k = n := by omega
   have hlt : L.take k = L := List.take_of_length_le (by rw [HLL.out, List.length_map, HN.out]; exact Nat.le_refl _)
   rw [hlt] at HOW
   clear hlt
   go_wp2
   go_ret
   exact ⟨A0, c0, rfl, HOW.out, HBR.out⟩
set_option maxRecDepth 100000 in
theorem specHashesOf_c (width : Int) (A : Option Addr) (c lo hi n : Nat) (l : List Ent) (w : World) (hr : Rd w lo hi A (ents l)) (hn : l.length = n) (hl : n ≤ 1048576) (hcap : n ≤ c) (hf : ∀ x ∈ l, x.fits) :
  Calls Tryz.prog 44 #[.int .i64 width, .agg #[.slice A n c]] w fun e w' => ∃ A' c', e = .returned (.tuple #[.slice A' (hashesM width l).length c', .bool (hashesK width l)]) ∧ Own w' w.heap.size w'.heap.size A' (strs (hashesM width l)) ∧ Below w.heap.size w w' := by
 have HN := lH hn
 have HBAD : Hid (hashesK width l = false → hashesM width l = []) := lH (fun h => by rw [hashesM]; rw [hashesK] at h; rw [h]; rfl)
 have HGOOD : Hid (hashesK width l = true → hashesM width l = l.map (leafHashM width)) := lH (fun h => by rw [hashesM]; rw [hashesK] at h; rw [h]; rfl)
 have HK : Hid (hashesK width l = (inR width 1 32 && logOk l)) := lH rfl
 have HLEN : Hid ((l.map (leafHashM width)).length = n) := lH (by rw [List.length_map, hn])
 have HLG : Hid (∀ W, Rd W 0 W.heap.size A (ents l) → Calls Tryz.prog 78 #[.agg #[.slice A n c]] W fun e w' => e = .returned (.bool (logOk l)) ∧ Below W.heap.size W w') := lH (fun W h => by first | exact specLogOk_c A c 0 W.heap.size n l W h hn hl hf | exact specLogOk_c A c 0 W.heap.size n l W h hn hl hcap hf)
 have HHO := lH (fun W (h : Rd W 0 W.heap.size A (ents l)) => l09Hashes_c width A c 0 W.heap.size n l W h hn hl hf)
 have HF := lH hf
 generalize hashesM width l = hm at *
 generalize hashesK width l = hk at *
 clear hn hf
 have HB : Hid (Below w.heap.size w w) := Below.refl _ _
 have HOl : Hid (Rd w (0) (w.heap.size) (A) (ents l)) := Rd.base hr
 clear hr
 go_enter Tryz.func44, Tryz.ntmps44
 go_wp2_with fail
 refine calls_named (fun w1 hw => ?_)
 have hz1 : w.heap.size + 1 ≤ w1.heap.size := by rw [hw]; first | omega | simp [World.setCell] <;> omega
 have hzz1 : w.heap.size ≤ w1.heap.size := by omega
 have hbn : Below w.heap.size w w1 := by rw [hw]; exact (by repeat with_reducible first | exact bR _ | apply bA | apply bD)
 replace HB := lH (below_then HB.out hbn HB.out.size)
 replace HOl := lH (HOl.out.below hbn)
 clear hbn
 have HXb : Hid (NewBox w1 (w.heap.size) [.slice A n c]) := by rw [Hid, hw]; exact ⟨by first | omega | (simp [World.setCell]; done) | (simp [World.setCell]; omega), fun o => by rcases o with _ | o <;> go_simp, fun o => by go_simp⟩
 obtain ⟨hkb, hxb, hfb⟩ := HXb.out
 clear hw
 refine (l02Width_c width _).mono ?_
 rintro e w2_ ⟨rfl, rfl⟩
 rcases hq : inR width 1 32 with _ | _
 ·have hz : hk = false := by rw [HK.out, hq]; rfl
  subst hz
  obtain rfl := HBAD.out rfl
  go_wp2
  refine bodyPost_named (fun w7 hw => ?_)
  have hb7 : Hid (Below w.heap.size w w7) := by rw [Hid, hw]; exact (by ((repeat first | with_reducible apply bA | with_reducible apply bD | (with_reducible refine bS ?_ ?_; (focus (first | omega | (simp; done) | (simp; omega))))); exact HB.out))
  clear hw
  go_ret2
  exact ⟨_, _, rfl, Own.nil, hb7.out⟩
 ·rw [hq] at HK
  clear hq
  go_wp2_with fail
  refine calls_named (fun w3 hw => ?_)
  have hz3 : w1.heap.size + 0 ≤ w3.heap.size := by rw [hw]; first | omega | simp [World.setCell] <;> omega
  have hzz3 : w.heap.size ≤ w3.heap.size := by omega
  have hbn : Below w1.heap.size w1 w3 := by rw [hw]; exact (by repeat with_reducible first | exact bR _ | apply bA | apply bD)
  replace HB := lH (below_then HB.out hbn HB.out.size)
  replace HOl := lH (HOl.out.below hbn)
  replace HXb := lH (HXb.out.below hbn)
  clear hxb hfb hkb
  obtain ⟨hkb, hxb, hfb⟩ := HXb.out
  clear hbn
  clear hw
  refine (HLG.out _ HOl.out.base).mono ?_
  rintro e w4 ⟨rfl, hb⟩
  have hzw4 : w3.heap.size ≤ w4.heap.size := hb.size
  have hzzw4 : w.heap.size ≤ w4.heap.size := by omega
  replace HB := lH (below_then HB.out hb HB.out.size)
  replace HOl := lH (HOl.out.below hb)
  replace HXb := lH (HXb.out.below hb)
  clear hxb hfb hkb
  obtain ⟨hkb, hxb, hfb⟩ := HXb.out
  clear hb
  rcases hq : logOk l with _ | _
  ·have hz : hk = false := by rw [HK.out, hq]; rfl
   subst hz
   obtain rfl := HBAD.out rfl
   go_wp2
   refine bodyPost_named (fun w7 hw => ?_)
   have hb7 : Hid (Below w.heap.size w w7) := by rw [Hid, hw]; exact (by ((repeat first | with_reducible apply bA | with_reducible apply bD | (with_reducible refine bS ?_ ?_; (focus (first | omega | (simp; done) | (simp; omega))))); exact HB.out))
   clear hw
   go_ret2
   exact ⟨_, _, rfl, Own.nil, hb7.out⟩
  ·have hz : hk = true := by rw [HK.out, hq]; rfl
   subst hz
   obtain rfl := HGOOD.out rfl
   clear hq
   go_wp2_with fail
   refine calls_named (fun w5 hw => ?_)
   have hz5 : w4.heap.size + 0 ≤ w5.heap.size := by rw [hw]; first | omega | simp [World.setCell] <;> omega
   have hzz5 : w.heap.size ≤ w5.heap.size := by omega
   have hbn : Below w4.heap.size w4 w5 := by rw [hw]; exact (by repeat with_reducible first | exact bR _ | apply bA | apply bD)
   replace HB := lH (below_then HB.out hbn HB.out.size)
   replace HOl := lH (HOl.out.below hbn)
   replace HXb := lH (HXb.out.below hbn)
   clear hxb hfb hkb
   obtain ⟨hkb, hxb, hfb⟩ := HXb.out
   clear hbn
   clear hw
   refine (HHO.out _ HOl.out.base).mono ?_
   rintro e w6 ⟨A6, c6, rfl, how, hb⟩
   have hzw6 : w5.heap.size ≤ w6.heap.size := hb.size
   have hzzw6 : w.heap.size ≤ w6.heap.size := by omega
   replace HB := lH (below_then HB.out hb HB.out.size)
   replace HOl := lH (HOl.out.below hb)
   replace HXb := lH (HXb.out.below hb)
   clear hxb hfb hkb
   obtain ⟨hkb, hxb, hfb⟩ := HXb.out
   clear hb
   have HOW := lH (Own.of_ownsRow how)
   have hz6 := Below.size (by exact HB.out)
   have hzp : w.heap.size ≤ w5.heap.size := by omega
   clear how
   go_wp2
   go_ret2
   exact ⟨A6, c6, by rw [HLEN.out]; rfl, HOW.out.mono hzp (Nat.le_refl _) (Nat.le_refl _), HB.out⟩
end
end Go.Proofs.YtoccjgcokffkbaaGreat
