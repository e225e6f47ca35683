/- Texts and hashes of entries. -/
import Derived.Test.YtmmepogjocfefaaGreatHds4
import Derived.Test.YtmmepogjocfefaaGreatEntry
namespace Go.Proofs.YtmmepogjocfefaaGreat
set_option linter.unusedVariables false
set_option linter.unusedSimpArgs false
open Go.RowKit

theorem entryOk_all {e : Ent} (h : entryOk e = true) : e.topic.size ≤ 20 ∧ 0 ≤ e.index ∧ e.index ≤ 511 ∧ 0 ≤ e.time ∧ e.time ≤ 1000000000 ∧ e.key.size ≤ 40 ∧ e.body.size ≤ 400 := by
 rw [entryOk, Bool.and_eq_true, Bool.and_eq_true, partsOk, Bool.and_eq_true, Bool.and_eq_true, nameOk, Bool.and_eq_true] at h
 have h1 := inR_true.1 h.1.1
 have h2 := inR_true.1 h.2.1
 have h3 := inR_true.1 h.2.2.1
 have h4 := of_decide_eq_true h.2.2.2.1
 have h5 := of_decide_eq_true h.2.2.2.2
 omega
def leafTextB (e : Ent) : ByteArray := ⟨#[69]⟩ ++ shortB e.topic ++ pairB e.index ++ wordText e.time ++ shortB e.key ++ pairB e.body.size ++ e.body
def leafTextM (e : Ent) : ByteArray := if entryOk e then leafTextB e else ByteArray.empty
theorem shortB_size (t : ByteArray) : (shortB t).size = 1 + t.size := by rw [shortB, ByteArray.size_append, octB_size]
theorem leafTextM_size (e : Ent) : (leafTextM e).size ≤ 480 := by
 by_cases h : entryOk e = true
 ·have := entryOk_all h
  rw [leafTextM, if_pos h, leafTextB]
  simp only [ByteArray.size_append, pairB_size, shortB_size, wordText_size]
  rw [show ((⟨#[69]⟩ : ByteArray)).size = 1 from rfl]
  omega
 ·rw [leafTextM, if_neg h]; exact Nat.zero_le _
theorem numUp_4 {n : Int} (h0 : 0 ≤ n) (h : n < 4294967296) : numUp n 4 = wordText n := by
 show octB (n / 256 / 256 / 256) ++ (octB (n / 256 / 256) ++ (octB (n / 256) ++ (octB n ++ ByteArray.empty))) = wordText n
 rw [ByteArray.append_empty]
 have e1 : n / 256 / 256 / 256 % 256 = n / 16777216 := by omega
 have e2 : n / 256 / 256 % 256 = n / 65536 % 256 := by omega
 show strOfNums [n / 256 / 256 / 256 % 256] ++ (strOfNums [n / 256 / 256 % 256] ++ (strOfNums [n / 256 % 256] ++ strOfNums [n % 256])) = strOfNums [n / 16777216, n / 65536 % 256, n / 256 % 256, n % 256]
 rw [e1, e2]
 rfl
theorem l03Number4_c {n : Int} (w : World) (h0 : 0 ≤ n) (h : n ≤ 1000000000) : Calls Tryz.prog 176 #[.int .i64 n, .int .i64 4] w fun e w' => e = .returned (.string (wordText n)) ∧ Below w.heap.size w w' := by
 have := l03Number_c n 4 w h0 (by omega) (by omega)
 rwa [numUp_4 h0 (by omega)] at this
def leafHashM (width : Int) (e : Ent) : ByteArray := if entryOk e = true then digM width 0 (leafTextM e) else ⟨#[]⟩
def leafHashOk (width : Int) (e : Ent) : Bool := entryOk e && digOk width 0 (leafTextM e)

set_option maxRecDepth 100000 in
set_option maxHeartbeats 4000000 in
theorem implLeafText_c (e : Ent) (w : World) (hf : e.fits) : Calls Tryz.prog 145 #[.agg #[.string e.topic, .int .i64 e.index, .int .i64 e.time, .string e.key, .string e.body]] w fun r w' => r = .returned (.tuple #[.string (leafTextM e), .bool (entryOk e)]) ∧ Below w.heap.size w w' := by
 have HO := Lib.hid (fun W => implEntryOk_c e W hf)
 rcases hq : entryOk e with _ | _
 ·have HM : Hid (leafTextM e = ⟨#[]⟩) := by rw [Hid, leafTextM, hq]; rfl
  rw [hq] at HO
  clear hq
  have HB : Hid (Below w.heap.size w w) := Below.refl _ _
  go_enter Tryz.func145, Tryz.ntmps145
  go_wp2_with fail
  refine calls_named (fun w1 hw => ?_)
  have hz1 : w.heap.size + 1 ≤ w1.heap.size := by rw [hw]; first | omega | (simp [World.setCell]; done) | (simp [World.setCell]; omega)
  have hzz1 : w.heap.size ≤ w1.heap.size := by omega
  have hbn : Below w.heap.size w w1 := by rw [hw]; exact (by ((repeat (first | ((with_reducible refine Below.alloc ?_ ?_ _); rotate_left 1; (focus (first | omega | (simp; done) | (simp; omega)))) | (with_reducible refine Below.drew ?_) | ((with_reducible refine Below.setCell ?_ ?_ _); rotate_left 1; (focus (first | omega | (simp; done) | (simp; omega)))))); exact Below.refl _ _))
  replace HB := Lib.hid (below_then HB.out hbn HB.out.size)
  clear hbn
  have HXh : Hid (NewBox w1 (w.heap.size) [.string e.topic, .int .i64 e.index, .int .i64 e.time, .string e.key, .string e.body]) := by rw [Hid, hw]; exact ⟨by first | omega | (simp [World.setCell]; done) | (simp [World.setCell]; omega), fun o => by rcases o with _ | _ | _ | _ | _ | o <;> go_simp, fun o => by go_simp⟩
  have hxh := HXh.out.2.1
  have hfh := HXh.out.2.2
  have hkh := HXh.out.1
  clear hw
  refine (HO.out _).mono ?_
  rintro e w2 ⟨rfl, hb⟩
  have hzw2 : w1.heap.size ≤ w2.heap.size := hb.size
  have hzzw2 : w.heap.size ≤ w2.heap.size := by omega
  replace HB := Lib.hid (below_then HB.out hb HB.out.size)
  replace HXh := Lib.hid (HXh.out.below hb)
  clear hxh hfh hkh
  have hxh := HXh.out.2.1
  have hfh := HXh.out.2.2
  have hkh := HXh.out.1
  clear hb
  go_wp2
  refine bodyPost_ret (v := .tuple #[.string ⟨#[]⟩, .bool false]) (by simp [results, Tryz.results145, go_sem]) rfl ?_
  exact ⟨by rw [HM.out], HB.out⟩
 ·obtain ⟨g1, g2, g3, g4, g5, g6, g7⟩ := entryOk_all hq
  have HM : Hid (leafTextM e = ⟨#[69]⟩ ++ shortB e.topic ++ pairB e.index ++ wordText e.time ++ shortB e.key ++ pairB e.body.size ++ e.body) := by rw [Hid, leafTextM, hq]; rfl
  rw [hq] at HO
  have n1 := Lib.hid (fun W => short_c e.topic W (by omega))
  have n2 := Lib.hid (fun W => pair_c e.index W g2 (by omega))
  have n3 := Lib.hid (fun W => implWordText_c e.time W (by omega))
  have n4 := Lib.hid (fun W => short_c e.key W (by omega))
  have n5 := Lib.hid (fun W => pair_c e.body.size W (by omega) (by omega))
  have e1 := shortB_size e.topic
  have e2 := pairB_size e.index
  have e3 := wordText_size e.time
  have e4 := shortB_size e.key
  have e5 := pairB_size e.body.size
  have e0 : ((⟨#[69]⟩ : ByteArray)).size = 1 := rfl
  have E1 : IntKind.u32.wrap e.time = e.time := by rw [IntKind.wrap_u32]; omega
  clear hq hf
  generalize shortB e.topic = p1 at *
  generalize pairB e.index = p2 at *
  generalize wordText e.time = p3 at *
  generalize shortB e.key = p4 at *
  generalize pairB e.body.size = p5 at *
  obtain ⟨s1, hs1⟩ : ∃ s, s = ⟨#[69]⟩ ++ p1 := ⟨_, rfl⟩
  have c1 := fun W : World => run_string_add_sum (P := Tryz.prog) W ⟨#[69]⟩ p1 (by omega)
  have z1 : s1.size ≤ 22 := by rw [hs1, ByteArray.size_append]; omega
  rw [← hs1] at c1
  have HS1 := Lib.hid hs1
  clear hs1
  obtain ⟨s2, hs2⟩ : ∃ s, s = s1 ++ p2 := ⟨_, rfl⟩
  have c2 := fun W : World => run_string_add_sum (P := Tryz.prog) W s1 p2 (by omega)
  have z2 : s2.size ≤ 24 := by rw [hs2, ByteArray.size_append]; omega
  rw [← hs2] at c2
  have HS2 := Lib.hid hs2
  clear hs2
  obtain ⟨s3, hs3⟩ : ∃ s, s = s2 ++ p3 := ⟨_, rfl⟩
  have c3 := fun W : World => run_string_add_sum (P := Tryz.prog) W s2 p3 (by omega)
  have z3 : s3.size ≤ 28 := by rw [hs3, ByteArray.size_append]; omega
  rw [← hs3] at c3
  have HS3 := Lib.hid hs3
  clear hs3
  obtain ⟨s4, hs4⟩ : ∃ s, s = s3 ++ p4 := ⟨_, rfl⟩
  have c4 := fun W : World => run_string_add_sum (P := Tryz.prog) W s3 p4 (by omega)
  have z4 : s4.size ≤ 80 := by rw [hs4, ByteArray.size_append]; omega
  rw [← hs4] at c4
  have HS4 := Lib.hid hs4
  clear hs4
  obtain ⟨s5, hs5⟩ : ∃ s, s = s4 ++ p5 := ⟨_, rfl⟩
  have c5 := fun W : World => run_string_add_sum (P := Tryz.prog) W s4 p5 (by omega)
  have z5 : s5.size ≤ 90 := by rw [hs5, ByteArray.size_append]; omega
  rw [← hs5] at c5
  have HS5 := Lib.hid hs5
  clear hs5
  obtain ⟨s6, hs6⟩ : ∃ s, s = s5 ++ e.body := ⟨_, rfl⟩
  have c6 := fun W : World => run_string_add_sum (P := Tryz.prog) W s5 e.body (by omega)
  have z6 : s6.size ≤ 500 := by rw [hs6, ByteArray.size_append]; omega
  rw [← hs6] at c6
  have HS6 := Lib.hid hs6
  clear hs6
  have HB : Hid (Below w.heap.size w w) := Below.refl _ _
  go_enter Tryz.func145, Tryz.ntmps145
  go_wp2_with fail
  refine calls_named (fun w1 hw => ?_)
  have hz1 : w.heap.size + 1 ≤ w1.heap.size := by rw [hw]; first | omega | (simp [World.setCell]; done) | (simp [World.setCell]; omega)
  have hzz1 : w.heap.size ≤ w1.heap.size := by omega
  have hbn : Below w.heap.size w w1 := by rw [hw]; exact (by ((repeat (first | ((with_reducible refine Below.alloc ?_ ?_ _); rotate_left 1; (focus (first | omega | (simp; done) | (simp; omega)))) | (with_reducible refine Below.drew ?_) | ((with_reducible refine Below.setCell ?_ ?_ _); rotate_left 1; (focus (first | omega | (simp; done) | (simp; omega)))))); exact Below.refl _ _))
  replace HB := Lib.hid (below_then HB.out hbn HB.out.size)
  clear hbn
  have HXh : Hid (NewBox w1 (w.heap.size) [.string e.topic, .int .i64 e.index, .int .i64 e.time, .string e.key, .string e.body]) := by rw [Hid, hw]; exact ⟨by first | omega | (simp [World.setCell]; done) | (simp [World.setCell]; omega), fun o => by rcases o with _ | _ | _ | _ | _ | o <;> go_simp, fun o => by go_simp⟩
  have hxh := HXh.out.2.1
  have hfh := HXh.out.2.2
  have hkh := HXh.out.1
  clear hw
  refine (HO.out _).mono ?_
  rintro e w2 ⟨rfl, hb⟩
  have hzw2 : w1.heap.size ≤ w2.heap.size := hb.size
  have hzzw2 : w.heap.size ≤ w2.heap.size := by omega
  replace HB := Lib.hid (below_then HB.out hb HB.out.size)
  replace HXh := Lib.hid (HXh.out.below hb)
  clear hxh hfh hkh
  have hxh := HXh.out.2.1
  have hfh := HXh.out.2.2
  have hkh := HXh.out.1
  clear hb
  have l0 : ∀ v : Later w2, v.v.cell? ⟨w.heap.size, 0, none⟩ = some (.string e.topic) := fun v => (later_cell v _ _ hkh).trans (hxh 0)
  have l1 : ∀ v : Later w2, v.v.cell? ⟨w.heap.size, 1, none⟩ = some (.int .i64 e.index) := fun v => (later_cell v _ _ hkh).trans (hxh 1)
  have l2 : ∀ v : Later w2, v.v.cell? ⟨w.heap.size, 2, none⟩ = some (.int .i64 e.time) := fun v => (later_cell v _ _ hkh).trans (hxh 2)
  go_wp2_with fail
  refine wp_region_later (by kernel_rfl) (by kernel_rfl) ?_
  repeat (go_big_quiet_step ((first | with_reducible exact later_call (n1.out _) | with_reducible exact later_call (n2.out _) | with_reducible exact later_call (n3.out _))))
  refine wpQuiet_nil ?_
  intro w9 h9
  have hb9 := later_below h9
  clear l0 l1 l2 h9 c1 c2 c3
  have hzw9 : w2.heap.size ≤ w9.heap.size := hb9.size
  have hzzw9 : w.heap.size ≤ w9.heap.size := by omega
  replace HB := Lib.hid (below_then HB.out hb9 HB.out.size)
  replace HXh := Lib.hid (HXh.out.below hb9)
  clear hxh hfh hkh
  have hxh := HXh.out.2.1
  have hfh := HXh.out.2.2
  have hkh := HXh.out.1
  clear hb9
  have l3 : ∀ v : Later w9, v.v.cell? ⟨w.heap.size, 3, none⟩ = some (.string e.key) := fun v => (later_cell v _ _ hkh).trans (hxh 3)
  have l4 : ∀ v : Later w9, v.v.cell? ⟨w.heap.size, 4, none⟩ = some (.string e.body) := fun v => (later_cell v _ _ hkh).trans (hxh 4)
  go_wp2_with fail
  refine wp_region_later (by kernel_rfl) (by kernel_rfl) ?_
  repeat (go_big_quiet_step ((first | with_reducible exact later_call (n4.out _) | with_reducible exact later_call (n5.out _))))
  refine wpQuiet_nil ?_
  intro w8 h8
  have hb8 := later_below h8
  have HB8 := Lib.hid (below_then HB.out hb8 HB.out.size)
  clear l3 l4 h8 hb8
  go_wp2
  refine bodyPost_ret (v := .tuple #[.string s6, .bool true]) (by simp [results, Tryz.results145, go_sem]) rfl ?_
  exact ⟨by rw [HM.out, HS6.out, HS5.out, HS4.out, HS3.out, HS2.out, HS1.out], HB8.out⟩
set_option maxRecDepth 100000 in
set_option maxHeartbeats 4000000 in
theorem specLeafText_c (e : Ent) (w : World) (hf : e.fits) : Calls Tryz.prog 141 #[.agg #[.string e.topic, .int .i64 e.index, .int .i64 e.time, .string e.key, .string e.body]] w fun r w' => r = .returned (.tuple #[.string (leafTextM e), .bool (entryOk e)]) ∧ Below w.heap.size w w' := by
 have HO := Lib.hid (fun W => specEntryOk_c e W hf)
 rcases hq : entryOk e with _ | _
 ·have HM : Hid (leafTextM e = ⟨#[]⟩) := by rw [Hid, leafTextM, hq]; rfl
  rw [hq] at HO
  clear hq
  have HB : Hid (Below w.heap.size w w) := Below.refl _ _
  go_enter Tryz.func141, Tryz.ntmps141
  go_wp2_with fail
  refine calls_named (fun w1 hw => ?_)
  have hz1 : w.heap.size + 1 ≤ w1.heap.size := by rw [hw]; first | omega | (simp [World.setCell]; done) | (simp [World.setCell]; omega)
  have hzz1 : w.heap.size ≤ w1.heap.size := by omega
  have hbn : Below w.heap.size w w1 := by rw [hw]; exact (by ((repeat (first | ((with_reducible refine Below.alloc ?_ ?_ _); rotate_left 1; (focus (first | omega | (simp; done) | (simp; omega)))) | (with_reducible refine Below.drew ?_) | ((with_reducible refine Below.setCell ?_ ?_ _); rotate_left 1; (focus (first | omega | (simp; done) | (simp; omega)))))); exact Below.refl _ _))
  replace HB := Lib.hid (below_then HB.out hbn HB.out.size)
  clear hbn
  have HXh : Hid (NewBox w1 (w.heap.size) [.string e.topic, .int .i64 e.index, .int .i64 e.time, .string e.key, .string e.body]) := by rw [Hid, hw]; exact ⟨by first | omega | (simp [World.setCell]; done) | (simp [World.setCell]; omega), fun o => by rcases o with _ | _ | _ | _ | _ | o <;> go_simp, fun o => by go_simp⟩
  have hxh := HXh.out.2.1
  have hfh := HXh.out.2.2
  have hkh := HXh.out.1
  clear hw
  refine (HO.out _).mono ?_
  rintro e w2 ⟨rfl, hb⟩
  have hzw2 : w1.heap.size ≤ w2.heap.size := hb.size
  have hzzw2 : w.heap.size ≤ w2.heap.size := by omega
  replace HB := Lib.hid (below_then HB.out hb HB.out.size)
  replace HXh := Lib.hid (HXh.out.below hb)
  clear hxh hfh hkh
  have hxh := HXh.out.2.1
  have hfh := HXh.out.2.2
  have hkh := HXh.out.1
  clear hb
  go_wp2
  refine bodyPost_ret (v := .tuple #[.string ⟨#[]⟩, .bool false]) (by simp [results, Tryz.results141, go_sem]) rfl ?_
  exact ⟨by rw [HM.out], HB.out⟩
 ·obtain ⟨g1, g2, g3, g4, g5, g6, g7⟩ := entryOk_all hq
  have HM : Hid (leafTextM e = ⟨#[69]⟩ ++ shortB e.topic ++ pairB e.index ++ wordText e.time ++ shortB e.key ++ pairB e.body.size ++ e.body) := by rw [Hid, leafTextM, hq]; rfl
  rw [hq] at HO
  have n1 := Lib.hid (fun W => l03Short_c e.topic W (by omega))
  have n2 := Lib.hid (fun W => l03Number2_c (n := e.index) W g2 (by omega))
  have n3 := Lib.hid (fun W => l03Number4_c (n := e.time) W g4 g5)
  have n4 := Lib.hid (fun W => l03Short_c e.key W (by omega))
  have n5 := Lib.hid (fun W => l03Number2_c (n := (e.body.size : Nat)) W (by omega) (by omega))
  have e1 := shortB_size e.topic
  have e2 := pairB_size e.index
  have e3 := wordText_size e.time
  have e4 := shortB_size e.key
  have e5 := pairB_size e.body.size
  have e0 : ((⟨#[69]⟩ : ByteArray)).size = 1 := rfl
  clear hq hf
  generalize shortB e.topic = p1 at *
  generalize pairB e.index = p2 at *
  generalize wordText e.time = p3 at *
  generalize shortB e.key = p4 at *
  generalize pairB e.body.size = p5 at *
  obtain ⟨s1, hs1⟩ : ∃ s, s = ⟨#[69]⟩ ++ p1 := ⟨_, rfl⟩
  have c1 := fun W : World => run_string_add_sum (P := Tryz.prog) W ⟨#[69]⟩ p1 (by omega)
  have z1 : s1.size ≤ 22 := by rw [hs1, ByteArray.size_append]; omega
  rw [← hs1] at c1
  have HS1 := Lib.hid hs1
  clear hs1
  obtain ⟨s2, hs2⟩ : ∃ s, s = s1 ++ p2 := ⟨_, rfl⟩
  have c2 := fun W : World => run_string_add_sum (P := Tryz.prog) W s1 p2 (by omega)
  have z2 : s2.size ≤ 24 := by rw [hs2, ByteArray.size_append]; omega
  rw [← hs2] at c2
  have HS2 := Lib.hid hs2
  clear hs2
  obtain ⟨s3, hs3⟩ : ∃ s, s = s2 ++ p3 := ⟨_, rfl⟩
  have c3 := fun W : World => run_string_add_sum (P := Tryz.prog) W s2 p3 (by omega)
  have z3 : s3.size ≤ 28 := by rw [hs3, ByteArray.size_append]; omega
  rw [← hs3] at c3
  have HS3 := Lib.hid hs3
  clear hs3
  obtain ⟨s4, hs4⟩ : ∃ s, s = s3 ++ p4 := ⟨_, rfl⟩
  have c4 := fun W : World => run_string_add_sum (P := Tryz.prog) W s3 p4 (by omega)
  have z4 : s4.size ≤ 80 := by rw [hs4, ByteArray.size_append]; omega
  rw [← hs4] at c4
  have HS4 := Lib.hid hs4
  clear hs4
  obtain ⟨s5, hs5⟩ : ∃ s, s = s4 ++ p5 := ⟨_, rfl⟩
  have c5 := fun W : World => run_string_add_sum (P := Tryz.prog) W s4 p5 (by omega)
  have z5 : s5.size ≤ 90 := by rw [hs5, ByteArray.size_append]; omega
  rw [← hs5] at c5
  have HS5 := Lib.hid hs5
  clear hs5
  obtain ⟨s6, hs6⟩ : ∃ s, s = s5 ++ e.body := ⟨_, rfl⟩
  have c6 := fun W : World => run_string_add_sum (P := Tryz.prog) W s5 e.body (by omega)
  have z6 : s6.size ≤ 500 := by rw [hs6, ByteArray.size_append]; omega
  rw [← hs6] at c6
  have HS6 := Lib.hid hs6
  clear hs6
  have HB : Hid (Below w.heap.size w w) := Below.refl _ _
  go_enter Tryz.func141, Tryz.ntmps141
  go_wp2_with fail
  refine calls_named (fun w1 hw => ?_)
  have hz1 : w.heap.size + 1 ≤ w1.heap.size := by rw [hw]; first | omega | (simp [World.setCell]; done) | (simp [World.setCell]; omega)
  have hzz1 : w.heap.size ≤ w1.heap.size := by omega
  have hbn : Below w.heap.size w w1 := by rw [hw]; exact (by ((repeat (first | ((with_reducible refine Below.alloc ?_ ?_ _); rotate_left 1; (focus (first | omega | (simp; done) | (simp; omega)))) | (with_reducible refine Below.drew ?_) | ((with_reducible refine Below.setCell ?_ ?_ _); rotate_left 1; (focus (first | omega | (simp; done) | (simp; omega)))))); exact Below.refl _ _))
  replace HB := Lib.hid (below_then HB.out hbn HB.out.size)
  clear hbn
  have HXh : Hid (NewBox w1 (w.heap.size) [.string e.topic, .int .i64 e.index, .int .i64 e.time, .string e.key, .string e.body]) := by rw [Hid, hw]; exact ⟨by first | omega | (simp [World.setCell]; done) | (simp [World.setCell]; omega), fun o => by rcases o with _ | _ | _ | _ | _ | o <;> go_simp, fun o => by go_simp⟩
  have hxh := HXh.out.2.1
  have hfh := HXh.out.2.2
  have hkh := HXh.out.1
  clear hw
  refine (HO.out _).mono ?_
  rintro e w2 ⟨rfl, hb⟩
  have hzw2 : w1.heap.size ≤ w2.heap.size := hb.size
  have hzzw2 : w.heap.size ≤ w2.heap.size := by omega
  replace HB := Lib.hid (below_then HB.out hb HB.out.size)
  replace HXh := Lib.hid (HXh.out.below hb)
  clear hxh hfh hkh
  have hxh := HXh.out.2.1
  have hfh := HXh.out.2.2
  have hkh := HXh.out.1
  clear hb
  have l0 : ∀ v : Later w2, v.v.cell? ⟨w.heap.size, 0, none⟩ = some (.string e.topic) := fun v => (later_cell v _ _ hkh).trans (hxh 0)
  have l1 : ∀ v : Later w2, v.v.cell? ⟨w.heap.size, 1, none⟩ = some (.int .i64 e.index) := fun v => (later_cell v _ _ hkh).trans (hxh 1)
  have l2 : ∀ v : Later w2, v.v.cell? ⟨w.heap.size, 2, none⟩ = some (.int .i64 e.time) := fun v => (later_cell v _ _ hkh).trans (hxh 2)
  have l3 : ∀ v : Later w2, v.v.cell? ⟨w.heap.size, 3, none⟩ = some (.string e.key) := fun v => (later_cell v _ _ hkh).trans (hxh 3)
  have l4 : ∀ v : Later w2, v.v.cell? ⟨w.heap.size, 4, none⟩ = some (.string e.body) := fun v => (later_cell v _ _ hkh).trans (hxh 4)
  go_wp2_with fail
  refine wp_region_later (by kernel_rfl) (by kernel_rfl) ?_
  repeat (go_big_quiet_step ((first | with_reducible exact later_call (n1.out _) | with_reducible exact later_call (n2.out _) | with_reducible exact later_call (n3.out _) | with_reducible exact later_call (n4.out _) | with_reducible exact later_call (n5.out _))))
  refine wpQuiet_nil ?_
  intro w8 h8
  have hb8 := later_below h8
  have HB8 := Lib.hid (below_then HB.out hb8 HB.out.size)
  clear l0 l1 l2 l3 l4 h8 hb8
  go_wp2
  refine bodyPost_ret (v := .tuple #[.string s6, .bool true]) (by simp [results, Tryz.results141, go_sem]) rfl ?_
  exact ⟨by rw [HM.out, HS6.out, HS5.out, HS4.out, HS3.out, HS2.out, HS1.out], HB8.out⟩
set_option maxRecDepth 100000 in
set_option maxHeartbeats 400000 in
theorem implLeafHash_c (width : Int) (e : Ent) (w : World) (hf : e.fits) : Calls Tryz.prog 164 #[.int .i64 width, .agg #[.string e.topic, .int .i64 e.index, .int .i64 e.time, .string e.key, .string e.body]] w fun r w' => r = .returned (.tuple #[.string (leafHashM width e), .bool (leafHashOk width e)]) ∧ Below w.heap.size w w' := by
 have HO := Lib.hid (fun W => implLeafText_c e W hf)
 have HD := Lib.hid (fun W => implDigest_c width 0 (leafTextM e) W (by have := leafTextM_size e; unfold maxLen; omega))
 have HB1 : Hid (leafHashM width e = if entryOk e = true then digM width 0 (leafTextM e) else ⟨#[]⟩) := Lib.hid rfl
 have HB2 : Hid (leafHashOk width e = (entryOk e && digOk width 0 (leafTextM e))) := Lib.hid rfl
 clear hf
 generalize entryOk e = q at *
 generalize leafTextM e = tx at *
 generalize leafHashM width e = lh at *
 generalize leafHashOk width e = lo at *
 generalize digM width 0 tx = dg at *
 generalize digOk width 0 tx = dk at *
 have HB : Hid (Below w.heap.size w w) := Below.refl _ _
 go_enter Tryz.func164, Tryz.ntmps164
 go_wp2_with fail
 refine calls_named (fun w1 hw => ?_)
 have hz1 : w.heap.size + 1 ≤ w1.heap.size := by rw [hw]; first | omega | (simp [World.setCell]; done) | (simp [World.setCell]; omega)
 have hzz1 : w.heap.size ≤ w1.heap.size := by omega
 have hbn : Below w.heap.size w w1 := by rw [hw]; exact (by ((repeat (first | ((with_reducible refine Below.alloc ?_ ?_ _); rotate_left 1; (focus (first | omega | (simp; done) | (simp; omega)))) | (with_reducible refine Below.drew ?_) | ((with_reducible refine Below.setCell ?_ ?_ _); rotate_left 1; (focus (first | omega | (simp; done) | (simp; omega)))))); exact Below.refl _ _))
 replace HB := Lib.hid (below_then HB.out hbn HB.out.size)
 clear hbn
 have HXh : Hid (NewBox w1 (w.heap.size) [.string e.topic, .int .i64 e.index, .int .i64 e.time, .string e.key, .string e.body]) := by rw [Hid, hw]; exact ⟨by first | omega | (simp [World.setCell]; done) | (simp [World.setCell]; omega), fun o => by rcases o with _ | _ | _ | _ | _ | o <;> go_simp, fun o => by go_simp⟩
 have hxh := HXh.out.2.1
 have hfh := HXh.out.2.2
 have hkh := HXh.out.1
 clear hw
 refine (HO.out _).mono ?_
 rintro e w2 ⟨rfl, hb⟩
 have hzw2 : w1.heap.size ≤ w2.heap.size := hb.size
 have hzzw2 : w.heap.size ≤ w2.heap.size := by omega
 replace HB := Lib.hid (below_then HB.out hb HB.out.size)
 replace HXh := Lib.hid (HXh.out.below hb)
 clear hxh hfh hkh
 have hxh := HXh.out.2.1
 have hfh := HXh.out.2.2
 have hkh := HXh.out.1
 clear hb
 rcases q with _ | _
 ·go_wp2
  refine bodyPost_ret (v := .tuple #[.string ⟨#[]⟩, .bool false]) (by simp [results, Tryz.results164, go_sem]) rfl ?_
  exact ⟨by rw [HB1.out, HB2.out]; rfl, HB.out⟩
 ·go_wp2_with fail
  refine calls_named (fun w3 hw => ?_)
  have hz3 : w2.heap.size + 0 ≤ w3.heap.size := by rw [hw]; first | omega | (simp [World.setCell]; done) | (simp [World.setCell]; omega)
  have hzz3 : w.heap.size ≤ w3.heap.size := by omega
  have hbn : Below w2.heap.size w2 w3 := by rw [hw]; exact (by ((repeat (first | ((with_reducible refine Below.alloc ?_ ?_ _); rotate_left 1; (focus (first | omega | (simp; done) | (simp; omega)))) | (with_reducible refine Below.drew ?_) | ((with_reducible refine Below.setCell ?_ ?_ _); rotate_left 1; (focus (first | omega | (simp; done) | (simp; omega)))))); exact Below.refl _ _))
  replace HB := Lib.hid (below_then HB.out hbn HB.out.size)
  replace HXh := Lib.hid (HXh.out.below hbn)
  clear hxh hfh hkh
  have hxh := HXh.out.2.1
  have hfh := HXh.out.2.2
  have hkh := HXh.out.1
  clear hbn
  clear hw
  refine (HD.out _).mono ?_
  rintro e w4 ⟨rfl, hb⟩
  have hzw4 : w3.heap.size ≤ w4.heap.size := hb.size
  have hzzw4 : w.heap.size ≤ w4.heap.size := by omega
  replace HB := Lib.hid (below_then HB.out hb HB.out.size)
  replace HXh := Lib.hid (HXh.out.below hb)
  clear hxh hfh hkh
  have hxh := HXh.out.2.1
  have hfh := HXh.out.2.2
  have hkh := HXh.out.1
  clear hb
  go_wp2
  refine bodyPost_ret (v := .tuple #[.string dg, .bool dk]) (by simp [results, Tryz.results164, go_sem]) rfl ?_
  exact ⟨by rw [HB1.out, HB2.out]; rfl, HB.out⟩
set_option maxRecDepth 100000 in
set_option maxHeartbeats 400000 in
theorem specLeafHash_c (width : Int) (e : Ent) (w : World) (hf : e.fits) : Calls Tryz.prog 110 #[.int .i64 width, .agg #[.string e.topic, .int .i64 e.index, .int .i64 e.time, .string e.key, .string e.body]] w fun r w' => r = .returned (.tuple #[.string (leafHashM width e), .bool (leafHashOk width e)]) ∧ Below w.heap.size w w' := by
 have HO := Lib.hid (fun W => specLeafText_c e W hf)
 have HD := Lib.hid (fun W => specDigest_c width 0 (leafTextM e) W (by have := leafTextM_size e; unfold maxLen; omega))
 have HB1 : Hid (leafHashM width e = if entryOk e = true then digM width 0 (leafTextM e) else ⟨#[]⟩) := Lib.hid rfl
 have HB2 : Hid (leafHashOk width e = (entryOk e && digOk width 0 (leafTextM e))) := Lib.hid rfl
 clear hf
 generalize entryOk e = q at *
 generalize leafTextM e = tx at *
 generalize leafHashM width e = lh at *
 generalize leafHashOk width e = lo at *
 generalize digM width 0 tx = dg at *
 generalize digOk width 0 tx = dk at *
 have HB : Hid (Below w.heap.size w w) := Below.refl _ _
 go_enter Tryz.func110, Tryz.ntmps110
 go_wp2_with fail
 refine calls_named (fun w1 hw => ?_)
 have hz1 : w.heap.size + 1 ≤ w1.heap.size := by rw [hw]; first | omega | (simp [World.setCell]; done) | (simp [World.setCell]; omega)
 have hzz1 : w.heap.size ≤ w1.heap.size := by omega
 have hbn : Below w.heap.size w w1 := by rw [hw]; exact (by ((repeat (first | ((with_reducible refine Below.alloc ?_ ?_ _); rotate_left 1; (focus (first | omega | (simp; done) | (simp; omega)))) | (with_reducible refine Below.drew ?_) | ((with_reducible refine Below.setCell ?_ ?_ _); rotate_left 1; (focus (first | omega | (simp; done) | (simp; omega)))))); exact Below.refl _ _))
 replace HB := Lib.hid (below_then HB.out hbn HB.out.size)
 clear hbn
 have HXh : Hid (NewBox w1 (w.heap.size) [.string e.topic, .int .i64 e.index, .int .i64 e.time, .string e.key, .string e.body]) := by rw [Hid, hw]; exact ⟨by first | omega | (simp [World.setCell]; done) | (simp [World.setCell]; omega), fun o => by rcases o with _ | _ | _ | _ | _ | o <;> go_simp, fun o => by go_simp⟩
 have hxh := HXh.out.2.1
 have hfh := HXh.out.2.2
 have hkh := HXh.out.1
 clear hw
 refine (HO.out _).mono ?_
 rintro e w2 ⟨rfl, hb⟩
 have hzw2 : w1.heap.size ≤ w2.heap.size := hb.size
 have hzzw2 : w.heap.size ≤ w2.heap.size := by omega
 replace HB := Lib.hid (below_then HB.out hb HB.out.size)
 replace HXh := Lib.hid (HXh.out.below hb)
 clear hxh hfh hkh
 have hxh := HXh.out.2.1
 have hfh := HXh.out.2.2
 have hkh := HXh.out.1
 clear hb
 rcases q with _ | _
 ·go_wp2
  refine bodyPost_ret (v := .tuple #[.string ⟨#[]⟩, .bool false]) (by simp [results, Tryz.results110, go_sem]) rfl ?_
  exact ⟨by rw [HB1.out, HB2.out]; rfl, HB.out⟩
 ·go_wp2_with fail
  refine calls_named (fun w3 hw => ?_)
  have hz3 : w2.heap.size + 0 ≤ w3.heap.size := by rw [hw]; first | omega | (simp [World.setCell]; done) | (simp [World.setCell]; omega)
  have hzz3 : w.heap.size ≤ w3.heap.size := by omega
  have hbn : Below w2.heap.size w2 w3 := by rw [hw]; exact (by ((repeat (first | ((with_reducible refine Below.alloc ?_ ?_ _); rotate_left 1; (focus (first | omega | (simp; done) | (simp; omega)))) | (with_reducible refine Below.drew ?_) | ((with_reducible refine Below.setCell ?_ ?_ _); rotate_left 1; (focus (first | omega | (simp; done) | (simp; omega)))))); exact Below.refl _ _))
  replace HB := Lib.hid (below_then HB.out hbn HB.out.size)
  replace HXh := Lib.hid (HXh.out.below hbn)
  clear hxh hfh hkh
  have hxh := HXh.out.2.1
  have hfh := HXh.out.2.2
  have hkh := HXh.out.1
  clear hbn
  clear hw
  refine (HD.out _).mono ?_
  rintro e w4 ⟨rfl, hb⟩
  have hzw4 : w3.heap.size ≤ w4.heap.size := hb.size
  have hzzw4 : w.heap.size ≤ w4.heap.size := by omega
  replace HB := Lib.hid (below_then HB.out hb HB.out.size)
  replace HXh := Lib.hid (HXh.out.below hb)
  clear hxh hfh hkh
  have hxh := HXh.out.2.1
  have hfh := HXh.out.2.2
  have hkh := HXh.out.1
  clear hb
  go_wp2
  refine bodyPost_ret (v := .tuple #[.string dg, .bool dk]) (by simp [results, Tryz.results110, go_sem]) rfl ?_
  exact ⟨by rw [HB1.out, HB2.out]; rfl, HB.out⟩
end Go.Proofs.YtmmepogjocfefaaGreat
