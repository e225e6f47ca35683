/- Texts and hashes of receipts. -/
import Derived.Test.YtmmepogjocfefaaGreatLeaf
import Derived.Test.YtmmepogjocfefaaGreatSReceipt
namespace Go.Proofs.YtmmepogjocfefaaGreat
set_option linter.unusedVariables false
set_option linter.unusedSimpArgs false
open Go.RowKit

def rcpOk (r : Rcp) : Bool := nameOk r.reader && (nameOk r.topic && inR r.index 0 511)
theorem rcpOk_all {r : Rcp} (h : rcpOk r = true) : r.reader.size ≤ 20 ∧ r.topic.size ≤ 20 ∧ 0 ≤ r.index ∧ r.index ≤ 511 := by
 rw [rcpOk, Bool.and_eq_true, Bool.and_eq_true, nameOk, nameOk, Bool.and_eq_true, Bool.and_eq_true] at h
 have h1 := inR_true.1 h.1.1
 have h2 := inR_true.1 h.2.1.1
 have h3 := inR_true.1 h.2.2
 omega
def rcpTextB (r : Rcp) : ByteArray := ⟨#[82]⟩ ++ shortB r.reader ++ shortB r.topic ++ pairB r.index
def rcpTextM (r : Rcp) : ByteArray := if rcpOk r then rcpTextB r else ByteArray.empty
theorem rcpTextM_size (r : Rcp) : (rcpTextM r).size ≤ 100 := by
 by_cases h : rcpOk r = true
 ·have := rcpOk_all h
  rw [rcpTextM, if_pos h, rcpTextB]
  simp only [ByteArray.size_append, pairB_size, shortB_size]
  rw [show ((⟨#[82]⟩ : ByteArray)).size = 1 from rfl]
  omega
 ·rw [rcpTextM, if_neg h]; exact Nat.zero_le _
def rcpHashM (width : Int) (r : Rcp) : ByteArray := if rcpOk r = true then digM width 2 (rcpTextM r) else ⟨#[]⟩
def rcpHashOk (width : Int) (r : Rcp) : Bool := rcpOk r && digOk width 2 (rcpTextM r)
set_option maxRecDepth 100000 in
set_option maxHeartbeats 400000 in
theorem implReceiptOk_c (r : Rcp) (w : World) (hf : r.fits) :
  Calls Tryz.prog 159 #[.agg #[.string r.reader, .string r.topic, .int .i64 r.index]] w fun e w' => e = .returned (.bool (rcpOk r)) ∧ Below w.heap.size w w' := by
 obtain ⟨reader, topic, index⟩ := r
 obtain ⟨_, hreader, htopic⟩ := hf
 simp only at htopic hreader
 go_enter Tryz.func159, Tryz.ntmps159
 go_wp2_with fail
 refine (implNameOk_c _ _ hreader).mono ?_
 rintro e w1 ⟨rfl, rfl⟩
 rcases h1 : nameOk reader with _ | _
 ·go_wp2
  go_ret
  exact ⟨ret_bool (by rw [rcpOk, h1]; rfl), (Below.refl _ _).alloc (Nat.le_refl _) _⟩
 ·have H1 := Lib.hid h1
  clear h1
  go_wp2_with fail
  refine (implNameOk_c _ _ htopic).mono ?_
  rintro e w1 ⟨rfl, rfl⟩
  rcases h2 : nameOk topic with _ | _
  ·go_wp2
   go_ret
   exact ⟨ret_bool (by rw [rcpOk, H1.out, h2]; rfl), (Below.refl _ _).alloc (Nat.le_refl _) _⟩
  ·have H2 := Lib.hid h2
   clear h2
   go_wp2_with fail
   refine (isIndex_c _ _).mono ?_
   rintro e w1 ⟨rfl, rfl⟩
   go_wp2
   go_ret
   exact ⟨ret_bool (by rw [rcpOk, H1.out, H2.out]; rfl), (Below.refl _ _).alloc (Nat.le_refl _) _⟩
set_option maxRecDepth 100000 in
set_option maxHeartbeats 400000 in
theorem specReceiptOk_c (r : Rcp) (w : World) (hf : r.fits) :
  Calls Tryz.prog 106 #[.agg #[.string r.reader, .string r.topic, .int .i64 r.index]] w fun e w' => e = .returned (.bool (rcpOk r)) ∧ Below w.heap.size w w' := by
 obtain ⟨reader, topic, index⟩ := r
 obtain ⟨_, hreader, htopic⟩ := hf
 simp only at htopic hreader
 go_enter Tryz.func106, Tryz.ntmps106
 go_wp2_with fail
 refine (specNameOk_c _ _ hreader).mono ?_
 rintro e w1 ⟨rfl, rfl⟩
 rcases h1 : nameOk reader with _ | _
 ·go_wp2
  go_ret
  exact ⟨ret_bool (by rw [rcpOk, h1]; rfl), (Below.refl _ _).alloc (Nat.le_refl _) _⟩
 ·have H1 := Lib.hid h1
  clear h1
  go_wp2_with fail
  refine (specNameOk_c _ _ htopic).mono ?_
  rintro e w1 ⟨rfl, rfl⟩
  rcases h2 : nameOk topic with _ | _
  ·go_wp2
   go_ret
   exact ⟨ret_bool (by rw [rcpOk, H1.out, h2]; rfl), (Below.refl _ _).alloc (Nat.le_refl _) _⟩
  ·have H2 := Lib.hid h2
   clear h2
   go_wp2_with fail
   refine (l01In_c _ 0 511 _).mono ?_
   rintro e w1 ⟨rfl, rfl⟩
   go_wp2
   go_ret
   exact ⟨ret_bool (by rw [rcpOk, H1.out, H2.out]; rfl), (Below.refl _ _).alloc (Nat.le_refl _) _⟩
set_option maxRecDepth 100000 in
set_option maxHeartbeats 4000000 in
theorem implReceiptText_c (e : Rcp) (w : World) (hf : e.fits) : Calls Tryz.prog 147 #[.agg #[.string e.reader, .string e.topic, .int .i64 e.index]] w fun r w' => r = .returned (.tuple #[.string (rcpTextM e), .bool (rcpOk e)]) ∧ Below w.heap.size w w' := by
 have HO := Lib.hid (fun W => implReceiptOk_c e W hf)
 rcases hq : rcpOk e with _ | _
 ·have HM : Hid (rcpTextM e = ⟨#[]⟩) := by rw [Hid, rcpTextM, hq]; rfl
  rw [hq] at HO
  clear hq
  have HB : Hid (Below w.heap.size w w) := Below.refl _ _
  go_enter Tryz.func147, Tryz.ntmps147
  go_wp2_with fail
  refine calls_named (fun w1 hw => ?_)
  have hz1 : w.heap.size + 1 ≤ w1.heap.size := by rw [hw]; first | omega | (simp [World.setCell]; done) | (simp [World.setCell]; omega)
  have hzz1 : w.heap.size ≤ w1.heap.size := by omega
  have hbn : Below w.heap.size w w1 := by rw [hw]; exact (by ((repeat (first | ((with_reducible refine Below.alloc ?_ ?_ _); rotate_left 1; (focus (first | omega | (simp; done) | (simp; omega)))) | (with_reducible refine Below.drew ?_) | ((with_reducible refine Below.setCell ?_ ?_ _); rotate_left 1; (focus (first | omega | (simp; done) | (simp; omega)))))); exact Below.refl _ _))
  replace HB := Lib.hid (below_then HB.out hbn HB.out.size)
  clear hbn
  have HXh : Hid (NewBox w1 (w.heap.size) [.string e.reader, .string e.topic, .int .i64 e.index]) := by rw [Hid, hw]; exact ⟨by first | omega | (simp [World.setCell]; done) | (simp [World.setCell]; omega), fun o => by rcases o with _ | _ | _ | o <;> go_simp, fun o => by go_simp⟩
  have hxh := HXh.out.2.1
  have hfh := HXh.out.2.2
  have hkh := HXh.out.1
  clear hw
  refine (HO.out _).mono ?_
  rintro e w2 ⟨rfl, hb⟩
  have hzw2 : w1.heap.size ≤ w2.heap.size := hb.size
  have hzzw2 : w.heap.size ≤ w2.heap.size := by omega
  replace HB := Lib.hid (below_then HB.out hb HB.out.size)
  replace HXh := Lib.hid (HXh.out.below hb)
  clear hxh hfh hkh
  have hxh := HXh.out.2.1
  have hfh := HXh.out.2.2
  have hkh := HXh.out.1
  clear hb
  go_wp2
  refine bodyPost_ret (v := .tuple #[.string ⟨#[]⟩, .bool false]) (by simp [results, Tryz.results147, go_sem]) rfl ?_
  exact ⟨by rw [HM.out], HB.out⟩
 ·obtain ⟨g1, g2, g3, g4⟩ := rcpOk_all hq
  have HM : Hid (rcpTextM e = ⟨#[82]⟩ ++ shortB e.reader ++ shortB e.topic ++ pairB e.index) := by rw [Hid, rcpTextM, hq]; rfl
  rw [hq] at HO
  have n1 := Lib.hid (fun W => short_c e.reader W (by omega))
  have n2 := Lib.hid (fun W => short_c e.topic W (by omega))
  have n3 := Lib.hid (fun W => pair_c e.index W g3 (by omega))
  have e1 := shortB_size e.reader
  have e2 := shortB_size e.topic
  have e3 := pairB_size e.index
  have e0 : ((⟨#[82]⟩ : ByteArray)).size = 1 := rfl
  clear hq hf
  generalize shortB e.reader = p1 at *
  generalize shortB e.topic = p2 at *
  generalize pairB e.index = p3 at *
  obtain ⟨s1, hs1⟩ : ∃ s, s = ⟨#[82]⟩ ++ p1 := ⟨_, rfl⟩
  have c1 := fun W : World => run_string_add_sum (P := Tryz.prog) W ⟨#[82]⟩ p1 (by omega)
  have z1 : s1.size ≤ 22 := by rw [hs1, ByteArray.size_append]; omega
  rw [← hs1] at c1
  have HS1 := Lib.hid hs1
  clear hs1
  obtain ⟨s2, hs2⟩ : ∃ s, s = s1 ++ p2 := ⟨_, rfl⟩
  have c2 := fun W : World => run_string_add_sum (P := Tryz.prog) W s1 p2 (by omega)
  have z2 : s2.size ≤ 44 := by rw [hs2, ByteArray.size_append]; omega
  rw [← hs2] at c2
  have HS2 := Lib.hid hs2
  clear hs2
  obtain ⟨s3, hs3⟩ : ∃ s, s = s2 ++ p3 := ⟨_, rfl⟩
  have c3 := fun W : World => run_string_add_sum (P := Tryz.prog) W s2 p3 (by omega)
  have z3 : s3.size ≤ 48 := by rw [hs3, ByteArray.size_append]; omega
  rw [← hs3] at c3
  have HS3 := Lib.hid hs3
  clear hs3
  have HB : Hid (Below w.heap.size w w) := Below.refl _ _
  go_enter Tryz.func147, Tryz.ntmps147
  go_wp2_with fail
  refine calls_named (fun w1 hw => ?_)
  have hz1 : w.heap.size + 1 ≤ w1.heap.size := by rw [hw]; first | omega | (simp [World.setCell]; done) | (simp [World.setCell]; omega)
  have hzz1 : w.heap.size ≤ w1.heap.size := by omega
  have hbn : Below w.heap.size w w1 := by rw [hw]; exact (by ((repeat (first | ((with_reducible refine Below.alloc ?_ ?_ _); rotate_left 1; (focus (first | omega | (simp; done) | (simp; omega)))) | (with_reducible refine Below.drew ?_) | ((with_reducible refine Below.setCell ?_ ?_ _); rotate_left 1; (focus (first | omega | (simp; done) | (simp; omega)))))); exact Below.refl _ _))
  replace HB := Lib.hid (below_then HB.out hbn HB.out.size)
  clear hbn
  have HXh : Hid (NewBox w1 (w.heap.size) [.string e.reader, .string e.topic, .int .i64 e.index]) := by rw [Hid, hw]; exact ⟨by first | omega | (simp [World.setCell]; done) | (simp [World.setCell]; omega), fun o => by rcases o with _ | _ | _ | o <;> go_simp, fun o => by go_simp⟩
  have hxh := HXh.out.2.1
  have hfh := HXh.out.2.2
  have hkh := HXh.out.1
  clear hw
  refine (HO.out _).mono ?_
  rintro e w2 ⟨rfl, hb⟩
  have hzw2 : w1.heap.size ≤ w2.heap.size := hb.size
  have hzzw2 : w.heap.size ≤ w2.heap.size := by omega
  replace HB := Lib.hid (below_then HB.out hb HB.out.size)
  replace HXh := Lib.hid (HXh.out.below hb)
  clear hxh hfh hkh
  have hxh := HXh.out.2.1
  have hfh := HXh.out.2.2
  have hkh := HXh.out.1
  clear hb
  have l0 : ∀ v : Later w2, v.v.cell? ⟨w.heap.size, 0, none⟩ = some (.string e.reader) := fun v => (later_cell v _ _ hkh).trans (hxh 0)
  have l1 : ∀ v : Later w2, v.v.cell? ⟨w.heap.size, 1, none⟩ = some (.string e.topic) := fun v => (later_cell v _ _ hkh).trans (hxh 1)
  have l2 : ∀ v : Later w2, v.v.cell? ⟨w.heap.size, 2, none⟩ = some (.int .i64 e.index) := fun v => (later_cell v _ _ hkh).trans (hxh 2)
  go_wp2_with fail
  refine wp_region_later (by kernel_rfl) (by kernel_rfl) ?_
  repeat (go_big_quiet_step ((first | with_reducible exact later_call (n1.out _) | with_reducible exact later_call (n2.out _) | with_reducible exact later_call (n3.out _))))
  refine wpQuiet_nil ?_
  intro w9 h9
  have hb9 := later_below h9
  have HB9 := Lib.hid (below_then HB.out hb9 HB.out.size)
  clear l0 l1 l2 h9 hb9
  go_wp2
  refine bodyPost_ret (v := .tuple #[.string s3, .bool true]) (by simp [results, Tryz.results147, go_sem]) rfl ?_
  exact ⟨by rw [HM.out, HS3.out, HS2.out, HS1.out], HB9.out⟩
set_option maxRecDepth 100000 in
set_option maxHeartbeats 4000000 in
theorem specReceiptText_c (e : Rcp) (w : World) (hf : e.fits) : Calls Tryz.prog 143 #[.agg #[.string e.reader, .string e.topic, .int .i64 e.index]] w fun r w' => r = .returned (.tuple #[.string (rcpTextM e), .bool (rcpOk e)]) ∧ Below w.heap.size w w' := by
 have HO := Lib.hid (fun W => specReceiptOk_c e W hf)
 rcases hq : rcpOk e with _ | _
 ·have HM : Hid (rcpTextM e = ⟨#[]⟩) := by rw [Hid, rcpTextM, hq]; rfl
  rw [hq] at HO
  clear hq
  have HB : Hid (Below w.heap.size w w) := Below.refl _ _
  go_enter Tryz.func143, Tryz.ntmps143
  go_wp2_with fail
  refine calls_named (fun w1 hw => ?_)
  have hz1 : w.heap.size + 1 ≤ w1.heap.size := by rw [hw]; first | omega | (simp [World.setCell]; done) | (simp [World.setCell]; omega)
  have hzz1 : w.heap.size ≤ w1.heap.size := by omega
  have hbn : Below w.heap.size w w1 := by rw [hw]; exact (by ((repeat (first | ((with_reducible refine Below.alloc ?_ ?_ _); rotate_left 1; (focus (first | omega | (simp; done) | (simp; omega)))) | (with_reducible refine Below.drew ?_) | ((with_reducible refine Below.setCell ?_ ?_ _); rotate_left 1; (focus (first | omega | (simp; done) | (simp; omega)))))); exact Below.refl _ _))
  replace HB := Lib.hid (below_then HB.out hbn HB.out.size)
  clear hbn
  have HXh : Hid (NewBox w1 (w.heap.size) [.string e.reader, .string e.topic, .int .i64 e.index]) := by rw [Hid, hw]; exact ⟨by first | omega | (simp [World.setCell]; done) | (simp [World.setCell]; omega), fun o => by rcases o with _ | _ | _ | o <;> go_simp, fun o => by go_simp⟩
  have hxh := HXh.out.2.1
  have hfh := HXh.out.2.2
  have hkh := HXh.out.1
  clear hw
  refine (HO.out _).mono ?_
  rintro e w2 ⟨rfl, hb⟩
  have hzw2 : w1.heap.size ≤ w2.heap.size := hb.size
  have hzzw2 : w.heap.size ≤ w2.heap.size := by omega
  replace HB := Lib.hid (below_then HB.out hb HB.out.size)
  replace HXh := Lib.hid (HXh.out.below hb)
  clear hxh hfh hkh
  have hxh := HXh.out.2.1
  have hfh := HXh.out.2.2
  have hkh := HXh.out.1
  clear hb
  go_wp2
  refine bodyPost_ret (v := .tuple #[.string ⟨#[]⟩, .bool false]) (by simp [results, Tryz.results143, go_sem]) rfl ?_
  exact ⟨by rw [HM.out], HB.out⟩
 ·obtain ⟨g1, g2, g3, g4⟩ := rcpOk_all hq
  have HM : Hid (rcpTextM e = ⟨#[82]⟩ ++ shortB e.reader ++ shortB e.topic ++ pairB e.index) := by rw [Hid, rcpTextM, hq]; rfl
  rw [hq] at HO
  have n1 := Lib.hid (fun W => l03Short_c e.reader W (by omega))
  have n2 := Lib.hid (fun W => l03Short_c e.topic W (by omega))
  have n3 := Lib.hid (fun W => l03Number2_c (n := e.index) W g3 (by omega))
  have e1 := shortB_size e.reader
  have e2 := shortB_size e.topic
  have e3 := pairB_size e.index
  have e0 : ((⟨#[82]⟩ : ByteArray)).size = 1 := rfl
  clear hq hf
  generalize shortB e.reader = p1 at *
  generalize shortB e.topic = p2 at *
  generalize pairB e.index = p3 at *
  obtain ⟨s1, hs1⟩ : ∃ s, s = ⟨#[82]⟩ ++ p1 := ⟨_, rfl⟩
  have c1 := fun W : World => run_string_add_sum (P := Tryz.prog) W ⟨#[82]⟩ p1 (by omega)
  have z1 : s1.size ≤ 22 := by rw [hs1, ByteArray.size_append]; omega
  rw [← hs1] at c1
  have HS1 := Lib.hid hs1
  clear hs1
  obtain ⟨s2, hs2⟩ : ∃ s, s = s1 ++ p2 := ⟨_, rfl⟩
  have c2 := fun W : World => run_string_add_sum (P := Tryz.prog) W s1 p2 (by omega)
  have z2 : s2.size ≤ 44 := by rw [hs2, ByteArray.size_append]; omega
  rw [← hs2] at c2
  have HS2 := Lib.hid hs2
  clear hs2
  obtain ⟨s3, hs3⟩ : ∃ s, s = s2 ++ p3 := ⟨_, rfl⟩
  have c3 := fun W : World => run_string_add_sum (P := Tryz.prog) W s2 p3 (by omega)
  have z3 : s3.size ≤ 48 := by rw [hs3, ByteArray.size_append]; omega
  rw [← hs3] at c3
  have HS3 := Lib.hid hs3
  clear hs3
  have HB : Hid (Below w.heap.size w w) := Below.refl _ _
  go_enter Tryz.func143, Tryz.ntmps143
  go_wp2_with fail
  refine calls_named (fun w1 hw => ?_)
  have hz1 : w.heap.size + 1 ≤ w1.heap.size := by rw [hw]; first | omega | (simp [World.setCell]; done) | (simp [World.setCell]; omega)
  have hzz1 : w.heap.size ≤ w1.heap.size := by omega
  have hbn : Below w.heap.size w w1 := by rw [hw]; exact (by ((repeat (first | ((with_reducible refine Below.alloc ?_ ?_ _); rotate_left 1; (focus (first | omega | (simp; done) | (simp; omega)))) | (with_reducible refine Below.drew ?_) | ((with_reducible refine Below.setCell ?_ ?_ _); rotate_left 1; (focus (first | omega | (simp; done) | (simp; omega)))))); exact Below.refl _ _))
  replace HB := Lib.hid (below_then HB.out hbn HB.out.size)
  clear hbn
  have HXh : Hid (NewBox w1 (w.heap.size) [.string e.reader, .string e.topic, .int .i64 e.index]) := by rw [Hid, hw]; exact ⟨by first | omega | (simp [World.setCell]; done) | (simp [World.setCell]; omega), fun o => by rcases o with _ | _ | _ | o <;> go_simp, fun o => by go_simp⟩
  have hxh := HXh.out.2.1
  have hfh := HXh.out.2.2
  have hkh := HXh.out.1
  clear hw
  refine (HO.out _).mono ?_
  rintro e w2 ⟨rfl, hb⟩
  have hzw2 : w1.heap.size ≤ w2.heap.size := hb.size
  have hzzw2 : w.heap.size ≤ w2.heap.size := by omega
  replace HB := Lib.hid (below_then HB.out hb HB.out.size)
  replace HXh := Lib.hid (HXh.out.below hb)
  clear hxh hfh hkh
  have hxh := HXh.out.2.1
  have hfh := HXh.out.2.2
  have hkh := HXh.out.1
  clear hb
  have l0 : ∀ v : Later w2, v.v.cell? ⟨w.heap.size, 0, none⟩ = some (.string e.reader) := fun v => (later_cell v _ _ hkh).trans (hxh 0)
  have l1 : ∀ v : Later w2, v.v.cell? ⟨w.heap.size, 1, none⟩ = some (.string e.topic) := fun v => (later_cell v _ _ hkh).trans (hxh 1)
  have l2 : ∀ v : Later w2, v.v.cell? ⟨w.heap.size, 2, none⟩ = some (.int .i64 e.index) := fun v => (later_cell v _ _ hkh).trans (hxh 2)
  go_wp2_with fail
  refine wp_region_later (by kernel_rfl) (by kernel_rfl) ?_
  repeat (go_big_quiet_step ((first | with_reducible exact later_call (n1.out _) | with_reducible exact later_call (n2.out _) | with_reducible exact later_call (n3.out _))))
  refine wpQuiet_nil ?_
  intro w9 h9
  have hb9 := later_below h9
  have HB9 := Lib.hid (below_then HB.out hb9 HB.out.size)
  clear l0 l1 l2 h9 hb9
  go_wp2
  refine bodyPost_ret (v := .tuple #[.string s3, .bool true]) (by simp [results, Tryz.results143, go_sem]) rfl ?_
  exact ⟨by rw [HM.out, HS3.out, HS2.out, HS1.out], HB9.out⟩
set_option maxRecDepth 100000 in
set_option maxHeartbeats 400000 in
theorem implReceiptHash_c (width : Int) (e : Rcp) (w : World) (hf : e.fits) : Calls Tryz.prog 165 #[.int .i64 width, .agg #[.string e.reader, .string e.topic, .int .i64 e.index]] w fun r w' => r = .returned (.tuple #[.string (rcpHashM width e), .bool (rcpHashOk width e)]) ∧ Below w.heap.size w w' := by
 have HO := Lib.hid (fun W => implReceiptText_c e W hf)
 have HD := Lib.hid (fun W => implDigest_c width 2 (rcpTextM e) W (by have := rcpTextM_size e; unfold maxLen; omega))
 have HB1 : Hid (rcpHashM width e = if rcpOk e = true then digM width 2 (rcpTextM e) else ⟨#[]⟩) := Lib.hid rfl
 have HB2 : Hid (rcpHashOk width e = (rcpOk e && digOk width 2 (rcpTextM e))) := Lib.hid rfl
 clear hf
 generalize rcpOk e = q at *
 generalize rcpTextM e = tx at *
 generalize rcpHashM width e = lh at *
 generalize rcpHashOk width e = lo at *
 generalize digM width 2 tx = dg at *
 generalize digOk width 2 tx = dk at *
 have HB : Hid (Below w.heap.size w w) := Below.refl _ _
 go_enter Tryz.func165, Tryz.ntmps165
 go_wp2_with fail
 refine calls_named (fun w1 hw => ?_)
 have hz1 : w.heap.size + 1 ≤ w1.heap.size := by rw [hw]; first | omega | (simp [World.setCell]; done) | (simp [World.setCell]; omega)
 have hzz1 : w.heap.size ≤ w1.heap.size := by omega
 have hbn : Below w.heap.size w w1 := by rw [hw]; exact (by ((repeat (first | ((with_reducible refine Below.alloc ?_ ?_ _); rotate_left 1; (focus (first | omega | (simp; done) | (simp; omega)))) | (with_reducible refine Below.drew ?_) | ((with_reducible refine Below.setCell ?_ ?_ _); rotate_left 1; (focus (first | omega | (simp; done) | (simp; omega)))))); exact Below.refl _ _))
 replace HB := Lib.hid (below_then HB.out hbn HB.out.size)
 clear hbn
 have HXh : Hid (NewBox w1 (w.heap.size) [.string e.reader, .string e.topic, .int .i64 e.index]) := by rw [Hid, hw]; exact ⟨by first | omega | (simp [World.setCell]; done) | (simp [World.setCell]; omega), fun o => by rcases o with _ | _ | _ | o <;> go_simp, fun o => by go_simp⟩
 have hxh := HXh.out.2.1
 have hfh := HXh.out.2.2
 have hkh := HXh.out.1
 clear hw
 refine (HO.out _).mono ?_
 rintro e w2 ⟨rfl, hb⟩
 have hzw2 : w1.heap.size ≤ w2.heap.size := hb.size
 have hzzw2 : w.heap.size ≤ w2.heap.size := by omega
 replace HB := Lib.hid (below_then HB.out hb HB.out.size)
 replace HXh := Lib.hid (HXh.out.below hb)
 clear hxh hfh hkh
 have hxh := HXh.out.2.1
 have hfh := HXh.out.2.2
 have hkh := HXh.out.1
 clear hb
 rcases q with _ | _
 ·go_wp2
  refine bodyPost_ret (v := .tuple #[.string ⟨#[]⟩, .bool false]) (by simp [results, Tryz.results165, go_sem]) rfl ?_
  exact ⟨by rw [HB1.out, HB2.out]; rfl, HB.out⟩
 ·go_wp2_with fail
  refine calls_named (fun w3 hw => ?_)
  have hz3 : w2.heap.size + 0 ≤ w3.heap.size := by rw [hw]; first | omega | (simp [World.setCell]; done) | (simp [World.setCell]; omega)
  have hzz3 : w.heap.size ≤ w3.heap.size := by omega
  have hbn : Below w2.heap.size w2 w3 := by rw [hw]; exact (by ((repeat (first | ((with_reducible refine Below.alloc ?_ ?_ _); rotate_left 1; (focus (first | omega | (simp; done) | (simp; omega)))) | (with_reducible refine Below.drew ?_) | ((with_reducible refine Below.setCell ?_ ?_ _); rotate_left 1; (focus (first | omega | (simp; done) | (simp; omega)))))); exact Below.refl _ _))
  replace HB := Lib.hid (below_then HB.out hbn HB.out.size)
  replace HXh := Lib.hid (HXh.out.below hbn)
  clear hxh hfh hkh
  have hxh := HXh.out.2.1
  have hfh := HXh.out.2.2
  have hkh := HXh.out.1
  clear hbn
  clear hw
  refine (HD.out _).mono ?_
  rintro e w4 ⟨rfl, hb⟩
  have hzw4 : w3.heap.size ≤ w4.heap.size := hb.size
  have hzzw4 : w.heap.size ≤ w4.heap.size := by omega
  replace HB := Lib.hid (below_then HB.out hb HB.out.size)
  replace HXh := Lib.hid (HXh.out.below hb)
  clear hxh hfh hkh
  have hxh := HXh.out.2.1
  have hfh := HXh.out.2.2
  have hkh := HXh.out.1
  clear hb
  go_wp2
  refine bodyPost_ret (v := .tuple #[.string dg, .bool dk]) (by simp [results, Tryz.results165, go_sem]) rfl ?_
  exact ⟨by rw [HB1.out, HB2.out]; rfl, HB.out⟩
set_option maxRecDepth 100000 in
set_option maxHeartbeats 400000 in
theorem specReceiptHash_c (width : Int) (e : Rcp) (w : World) (hf : e.fits) : Calls Tryz.prog 111 #[.int .i64 width, .agg #[.string e.reader, .string e.topic, .int .i64 e.index]] w fun r w' => r = .returned (.tuple #[.string (rcpHashM width e), .bool (rcpHashOk width e)]) ∧ Below w.heap.size w w' := by
 have HO := Lib.hid (fun W => specReceiptText_c e W hf)
 have HD := Lib.hid (fun W => specDigest_c width 2 (rcpTextM e) W (by have := rcpTextM_size e; unfold maxLen; omega))
 have HB1 : Hid (rcpHashM width e = if rcpOk e = true then digM width 2 (rcpTextM e) else ⟨#[]⟩) := Lib.hid rfl
 have HB2 : Hid (rcpHashOk width e = (rcpOk e && digOk width 2 (rcpTextM e))) := Lib.hid rfl
 clear hf
 generalize rcpOk e = q at *
 generalize rcpTextM e = tx at *
 generalize rcpHashM width e = lh at *
 generalize rcpHashOk width e = lo at *
 generalize digM width 2 tx = dg at *
 generalize digOk width 2 tx = dk at *
 have HB : Hid (Below w.heap.size w w) := Below.refl _ _
 go_enter Tryz.func111, Tryz.ntmps111
 go_wp2_with fail
 refine calls_named (fun w1 hw => ?_)
 have hz1 : w.heap.size + 1 ≤ w1.heap.size := by rw [hw]; first | omega | (simp [World.setCell]; done) | (simp [World.setCell]; omega)
 have hzz1 : w.heap.size ≤ w1.heap.size := by omega
 have hbn : Below w.heap.size w w1 := by rw [hw]; exact (by ((repeat (first | ((with_reducible refine Below.alloc ?_ ?_ _); rotate_left 1; (focus (first | omega | (simp; done) | (simp; omega)))) | (with_reducible refine Below.drew ?_) | ((with_reducible refine Below.setCell ?_ ?_ _); rotate_left 1; (focus (first | omega | (simp; done) | (simp; omega)))))); exact Below.refl _ _))
 replace HB := Lib.hid (below_then HB.out hbn HB.out.size)
 clear hbn
 have HXh : Hid (NewBox w1 (w.heap.size) [.string e.reader, .string e.topic, .int .i64 e.index]) := by rw [Hid, hw]; exact ⟨by first | omega | (simp [World.setCell]; done) | (simp [World.setCell]; omega), fun o => by rcases o with _ | _ | _ | o <;> go_simp, fun o => by go_simp⟩
 have hxh := HXh.out.2.1
 have hfh := HXh.out.2.2
 have hkh := HXh.out.1
 clear hw
 refine (HO.out _).mono ?_
 rintro e w2 ⟨rfl, hb⟩
 have hzw2 : w1.heap.size ≤ w2.heap.size := hb.size
 have hzzw2 : w.heap.size ≤ w2.heap.size := by omega
 replace HB := Lib.hid (below_then HB.out hb HB.out.size)
 replace HXh := Lib.hid (HXh.out.below hb)
 clear hxh hfh hkh
 have hxh := HXh.out.2.1
 have hfh := HXh.out.2.2
 have hkh := HXh.out.1
 clear hb
 rcases q with _ | _
 ·go_wp2
  refine bodyPost_ret (v := .tuple #[.string ⟨#[]⟩, .bool false]) (by simp [results, Tryz.results111, go_sem]) rfl ?_
  exact ⟨by rw [HB1.out, HB2.out]; rfl, HB.out⟩
 ·go_wp2_with fail
  refine calls_named (fun w3 hw => ?_)
  have hz3 : w2.heap.size + 0 ≤ w3.heap.size := by rw [hw]; first | omega | (simp [World.setCell]; done) | (simp [World.setCell]; omega)
  have hzz3 : w.heap.size ≤ w3.heap.size := by omega
  have hbn : Below w2.heap.size w2 w3 := by rw [hw]; exact (by ((repeat (first | ((with_reducible refine Below.alloc ?_ ?_ _); rotate_left 1; (focus (first | omega | (simp; done) | (simp; omega)))) | (with_reducible refine Below.drew ?_) | ((with_reducible refine Below.setCell ?_ ?_ _); rotate_left 1; (focus (first | omega | (simp; done) | (simp; omega)))))); exact Below.refl _ _))
  replace HB := Lib.hid (below_then HB.out hbn HB.out.size)
  replace HXh := Lib.hid (HXh.out.below hbn)
  clear hxh hfh hkh
  have hxh := HXh.out.2.1
  have hfh := HXh.out.2.2
  have hkh := HXh.out.1
  clear hbn
  clear hw
  refine (HD.out _).mono ?_
  rintro e w4 ⟨rfl, hb⟩
  have hzw4 : w3.heap.size ≤ w4.heap.size := hb.size
  have hzzw4 : w.heap.size ≤ w4.heap.size := by omega
  replace HB := Lib.hid (below_then HB.out hb HB.out.size)
  replace HXh := Lib.hid (HXh.out.below hb)
  clear hxh hfh hkh
  have hxh := HXh.out.2.1
  have hfh := HXh.out.2.2
  have hkh := HXh.out.1
  clear hb
  go_wp2
  refine bodyPost_ret (v := .tuple #[.string dg, .bool dk]) (by simp [results, Tryz.results111, go_sem]) rfl ?_
  exact ⟨by rw [HB1.out, HB2.out]; rfl, HB.out⟩
end Go.Proofs.YtmmepogjocfefaaGreat
