/- Part 12 of the proof of FnProofs: lemmas and contracts. -/
import Derived.Test.YtoccjgcokffkbaaGreatTq9
import Derived.Test.YtoccjgcokffkbaaGreatTq11
import Derived.Shelf.Abstract
import Derived.Test.YtoccjgcokffkbaaGreatTq8
namespace Go.Proofs.YtoccjgcokffkbaaGreat
set_option linter.unusedVariables false
set_option linter.unusedSimpArgs false
set_option maxHeartbeats 20000000
section
open Go.RowKit
def rcpOk (r : Rcp) : Bool := nameOk r.reader && (nameOk r.topic && inR r.index 0 511)
theorem rcpOk_all {r : Rcp} (h : rcpOk r = true) : r.reader.size ≤ 20 ∧ r.topic.size ≤ 20 ∧ 0 ≤ r.index ∧ r.index ≤ 511 := by
 rw [rcpOk, Bool.and_eq_true, Bool.and_eq_true, nameOk, nameOk, Bool.and_eq_true, Bool.and_eq_true] at h
 have h1 := inR_true.1 h.1.1
 have h2 := inR_true.1 h.2.1.1
 have h3 := inR_true.1 h.2.2
 omega
def rcpTextB (r : Rcp) : ByteArray := ⟨#[82]⟩ ++ shortB r.reader ++ shortB r.topic ++ pairB r.index
def rcpTextM (r : Rcp) : ByteArray := if rcpOk r then rcpTextB r else ByteArray.empty
theorem rcpTextM_size (r : Rcp) : (rcpTextM r).size ≤ 100 := by
 by_cases h : rcpOk r = true
 ·have := rcpOk_all h
  rw [rcpTextM, if_pos h, rcpTextB]
  simp only [ByteArray.size_append, pairB_size, shortB_size]
  rw [show ((⟨#[82]⟩ : ByteArray)).size = 1 from rfl]
  omega
 ·rw [rcpTextM, if_neg h]; exact Nat.zero_le _
def rcpHashM (width : Int) (r : Rcp) : ByteArray := if rcpOk r = true then digM width 2 (rcpTextM r) else ⟨#[]⟩
def rcpHashOk (width : Int) (r : Rcp) : Bool := rcpOk r && digOk width 2 (rcpTextM r)
set_option maxRecDepth 100000 in
theorem implReceiptOk_c (r : Rcp) (w : World) (hf : r.fits) :
  Calls Tryz.prog 139 #[.agg #[.string r.reader, .string r.topic, .int .i64 r.index]] w fun e w' => e = .returned (.bool (rcpOk r)) ∧ Below w.heap.size w w' := by
 obtain ⟨reader, topic, index⟩ := r
 obtain ⟨_, hreader, htopic⟩ := hf
 simp only at htopic hreader
 go_enter Tryz.func139, Tryz.ntmps139
 go_wp2_with fail
 refine (implNameOk_c _ _ hreader).mono ?_
 rintro e w1 ⟨rfl, rfl⟩
 rcases h1 : nameOk reader with _ | _
 ·go_wp2
  go_ret
  exact ⟨ret_bool (by rw [rcpOk, h1]; rfl), (Below.refl _ _).alloc (Nat.le_refl _) _⟩
 ·have H1 := lH h1
  clear h1
  go_wp2_with fail
  refine (implNameOk_c _ _ htopic).mono ?_
  rintro e w1 ⟨rfl, rfl⟩
  rcases h2 : nameOk topic with _ | _
  ·go_wp2
   go_ret
   exact ⟨ret_bool (by rw [rcpOk, H1.out, h2]; rfl), (Below.refl _ _).alloc (Nat.le_refl _) _⟩
  ·have H2 := lH h2
   clear h2
   go_wp2_with fail
   refine (isIndex_c _ _).mono ?_
   rintro e w1 ⟨rfl, rfl⟩
   go_wp2
   go_ret
   exact ⟨ret_bool (by rw [rcpOk, H1.out, H2.out]; rfl), (Below.refl _ _).alloc (Nat.le_refl _) _⟩
set_option maxRecDepth 100000 in
theorem specReceiptOk_c (r : Rcp) (w : World) (hf : r.fits) :
  Calls Tryz.prog 104 #[.agg #[.string r.reader, .string r.topic, .int .i64 r.index]] w fun e w' => e = .returned (.bool (rcpOk r)) ∧ Below w.heap.size w w' := by
 obtain ⟨reader, topic, index⟩ := r
 obtain ⟨_, hreader, htopic⟩ := hf
 simp only at htopic hreader
 go_enter Tryz.func104, Tryz.ntmps104
 go_wp2_with fail
 refine (specNameOk_c _ _ hreader).mono ?_
 rintro e w1 ⟨rfl, rfl⟩
 rcases h1 : nameOk reader with _ | _
 ·go_wp2
  go_ret
  exact ⟨ret_bool (by rw [rcpOk, h1]; rfl), (Below.refl _ _).alloc (Nat.le_refl _) _⟩
 ·have H1 := lH h1
  clear h1
  go_wp2_with fail
  refine (specNameOk_c _ _ htopic).mono ?_
  rintro e w1 ⟨rfl, rfl⟩
  rcases h2 : nameOk topic with _ | _
  ·go_wp2
   go_ret
   exact ⟨ret_bool (by rw [rcpOk, H1.out, h2]; rfl), (Below.refl _ _).alloc (Nat.le_refl _) _⟩
  ·have H2 := lH h2
   clear h2
   go_wp2_with fail
   refine (l01In_c _ 0 511 _).mono ?_
   rintro e w1 ⟨rfl, rfl⟩
   go_wp2
   go_ret
   exact ⟨ret_bool (by rw [rcpOk, H1.out, H2.out]; rfl), (Below.refl _ _).alloc (Nat.le_refl _) _⟩
set_option maxRecDepth 100000 in
theorem implReceiptText_c (e : Rcp) (w : World) (hf : e.fits) : Calls Tryz.prog 141 #[.agg #[.string e.reader, .string e.topic, .int .i64 e.index]] w fun r w' => r = .returned (.tuple #[.string (rcpTextM e), .bool (rcpOk e)]) ∧ Below w.heap.size w w' := by
 have HO := lH (fun W => implReceiptOk_c e W hf)
 rcases hq : rcpOk e with _ | _
 ·have HM : Hid (rcpTextM e = ⟨#[]⟩) := by rw [Hid, rcpTextM, hq]; rfl
  rw [hq] at HO
  clear hq
  have HB : Hid (Below w.heap.size w w) := Below.refl _ _
  go_enter Tryz.func141, Tryz.ntmps141
  go_wp2_with fail
  refine calls_named (fun w1 hw => ?_)
  have hz1 : w.heap.size + 1 ≤ w1.heap.size := by rw [hw]; first | omega | simp [World.setCell] <;> omega
  have hzz1 : w.heap.size ≤ w1.heap.size := by omega
  have hbn : Below w.heap.size w w1 := by rw [hw]; exact (by repeat with_reducible first | exact bR _ | apply bA | apply bD)
  replace HB := lH (below_then HB.out hbn HB.out.size)
  clear hbn
  have HXh : Hid (NewBox w1 (w.heap.size) [.string e.reader, .string e.topic, .int .i64 e.index]) := by rw [Hid, hw]; exact ⟨by first | omega | (simp [World.setCell]; done) | (simp [World.setCell]; omega), fun o => by rcases o with _ | _ | _ | o <;> go_simp, fun o => by go_simp⟩
  obtain ⟨hkh, hxh, hfh⟩ := HXh.out
  clear hw
  refine (HO.out _).mono ?_
  rintro e w2 ⟨rfl, hb⟩
  have hzw2 : w1.heap.size ≤ w2.heap.size := hb.size
  have hzzw2 : w.heap.size ≤ w2.heap.size := by omega
  replace HB := lH (below_then HB.out hb HB.out.size)
  replace HXh := lH (HXh.out.below hb)
  clear hxh hfh hkh
  obtain ⟨hkh, hxh, hfh⟩ := HXh.out
  clear hb
  go_wp2
  refine bodyPost_ret (v := .tuple #[.string ⟨#[]⟩, .bool false]) (by simp [results, Tryz.results141, go_sem]) rfl ?_
  exact ⟨by rw [HM.out], HB.out⟩
 ·obtain ⟨g1, g2, g3, g4⟩ := rcpOk_all hq
  have HM : Hid (rcpTextM e = ⟨#[82]⟩ ++ shortB e.reader ++ shortB e.topic ++ pairB e.index) := by rw [Hid, rcpTextM, hq]; rfl
  rw [hq] at HO
  have n1 := lH (fun W => short_c e.reader W (by omega))
  have n2 := lH (fun W => short_c e.topic W (by omega))
  have n3 := lH (fun W => pair_c e.index W g3 (by omega))
  have e1 := shortB_size e.reader
  have e2 := shortB_size e.topic
  have e3 := pairB_size e.index
  have e0 : ((⟨#[82]⟩ : ByteArray)).size = 1 := rfl
  clear hq hf
  generalize shortB e.reader = p1 at *
  generalize shortB e.topic = p2 at *
  generalize pairB e.index = p3 at *
  obtain ⟨s1, hs1⟩ : ∃ s, s = ⟨#[82]⟩ ++ p1 := ⟨_, rfl⟩
  have c1 := fun W : World => run_string_add_sum (P := Tryz.prog) W ⟨#[82]⟩ p1 (by omega)
  have z1 : s1.size ≤ 22 := by rw [hs1, ByteArray.size_append]; omega
  rw [← hs1] at c1
  have HS1 := lH hs1
  clear hs1
  obtain ⟨s2, hs2⟩ : ∃ s, s = s1 ++ p2 := ⟨_, rfl⟩
  have c2 := fun W : World => run_string_add_sum (P := Tryz.prog) W s1 p2 (by omega)
  have z2 : s2.size ≤ 44 := by rw [hs2, ByteArray.size_append]; omega
  rw [← hs2] at c2
  have HS2 := lH hs2
  clear hs2
  obtain ⟨s3, hs3⟩ : ∃ s, s = s2 ++ p3 := ⟨_, rfl⟩
  have c3 := fun W : World => run_string_add_sum (P := Tryz.prog) W s2 p3 (by omega)
  have z3 : s3.size ≤ 48 := by rw [hs3, ByteArray.size_append]; omega
  rw [← hs3] at c3
  have HS3 := lH hs3
  clear hs3
  have HB : Hid (Below w.heap.size w w) := Below.refl _ _
  go_enter Tryz.func141, Tryz.ntmps141
  go_wp2_with fail
  refine calls_named (fun w1 hw => ?_)
  have hz1 : w.heap.size + 1 ≤ w1.heap.size := by rw [hw]; first | omega | simp [World.setCell] <;> omega
  have hzz1 : w.heap.size ≤ w1.heap.size := by omega
  have hbn : Below w.heap.size w w1 := by rw [hw]; exact (by repeat with_reducible first | exact bR _ | apply bA | apply bD)
  replace HB := lH (below_then HB.out hbn HB.out.size)
  clear hbn
  have HXh : Hid (NewBox w1 (w.heap.size) [.string e.reader, .string e.topic, .int .i64 e.index]) := by rw [Hid, hw]; exact ⟨by first | omega | (simp [World.setCell]; done) | (simp [World.setCell]; omega), fun o => by rcases o with _ | _ | _ | o <;> go_simp, fun o => by go_simp⟩
  obtain ⟨hkh, hxh, hfh⟩ := HXh.out
  clear hw
  refine (HO.out _).mono ?_
  rintro e w2 ⟨rfl, hb⟩
  have hzw2 : w1.heap.size ≤ w2.heap.size := hb.size
  have hzzw2 : w.heap.size ≤ w2.heap.size := by omega
  replace HB := lH (below_then HB.out hb HB.out.size)
  replace HXh := lH (HXh.out.below hb)
  clear hxh hfh hkh
  obtain ⟨hkh, hxh, hfh⟩ := HXh.out
  clear hb
  have l0 : ∀ v : Later w2, v.v.cell? ⟨w.heap.size, 0, none⟩ = some (.string e.reader) := fun v => (later_cell v _ _ hkh).trans (hxh 0)
  have l1 : ∀ v : Later w2, v.v.cell? ⟨w.heap.size, 1, none⟩ = some (.string e.topic) := fun v => (later_cell v _ _ hkh).trans (hxh 1)
  have l2 : ∀ v : Later w2, v.v.cell? ⟨w.heap.size, 2, none⟩ = some (.int .i64 e.index) := fun v => (later_cell v _ _ hkh).trans (hxh 2)
  go_wp2_with fail
  refine wp_region_later (by kernel_rfl) (by kernel_rfl) ?_
  repeat (go_big_quiet_step ((first | with_reducible exact later_call (n1.out _) | with_reducible exact later_call (n2.out _) | with_reducible exact later_call (n3.out _))))
  refine wpQuiet_nil ?_
  intro w9 h9
  have hb9 := later_below h9
  have HB9 := lH (below_then HB.out hb9 HB.out.size)
  clear l0 l1 l2 h9 hb9
  go_wp2
  refine bodyPost_ret (v := .tuple #[.string s3, .bool true]) (by simp [results, Tryz.results141, go_sem]) rfl ?_
  exact ⟨by rw [HM.out, HS3.out, HS2.out, HS1.out], HB9.out⟩
set_option maxRecDepth 100000 in
theorem specReceiptText_c (e : Rcp) (w : World) (hf : e.fits) : Calls Tryz.prog 63 #[.agg #[.string e.reader, .string e.topic, .int .i64 e.index]] w fun r w' => r = .returned (.tuple #[.string (rcpTextM e), .bool (rcpOk e)]) ∧ Below w.heap.size w w' := by
 have HO := lH (fun W => specReceiptOk_c e W hf)
 rcases hq : rcpOk e with _ | _
 ·have HM : Hid (rcpTextM e = ⟨#[]⟩) := by rw [Hid, rcpTextM, hq]; rfl
  rw [hq] at HO
  clear hq
  have HB : Hid (Below w.heap.size w w) := Below.refl _ _
  go_enter Tryz.func63, Tryz.ntmps63
  go_wp2_with fail
  refine calls_named (fun w1 hw => ?_)
  have hz1 : w.heap.size + 1 ≤ w1.heap.size := by rw [hw]; first | omega | simp [World.setCell] <;> omega
  have hzz1 : w.heap.size ≤ w1.heap.size := by omega
  have hbn : Below w.heap.size w w1 := by rw [hw]; exact (by repeat with_reducible first | exact bR _ | apply bA | apply bD)
  replace HB := lH (below_then HB.out hbn HB.out.size)
  clear hbn
  have HXh : Hid (NewBox w1 (w.heap.size) [.string e.reader, .string e.topic, .int .i64 e.index]) := by rw [Hid, hw]; exact ⟨by first | omega | (simp [World.setCell]; done) | (simp [World.setCell]; omega), fun o => by rcases o with _ | _ | _ | o <;> go_simp, fun o => by go_simp⟩
  obtain ⟨hkh, hxh, hfh⟩ := HXh.out
  clear hw
  refine (HO.out _).mono ?_
  rintro e w2 ⟨rfl, hb⟩
  have hzw2 : w1.heap.size ≤ w2.heap.size := hb.size
  have hzzw2 : w.heap.size ≤ w2.heap.size := by omega
  replace HB := lH (below_then HB.out hb HB.out.size)
  replace HXh := lH (HXh.out.below hb)
  clear hxh hfh hkh
  obtain ⟨hkh, hxh, hfh⟩ := HXh.out
  clear hb
  go_wp2
  refine bodyPost_ret (v := .tuple #[.string ⟨#[]⟩, .bool false]) (by simp [results, Tryz.results63, go_sem]) rfl ?_
  exact ⟨by rw [HM.out], HB.out⟩
 ·obtain ⟨g1, g2, g3, g4⟩ := rcpOk_all hq
  have HM : Hid (rcpTextM e = ⟨#[82]⟩ ++ shortB e.reader ++ shortB e.topic ++ pairB e.index) := by rw [Hid, rcpTextM, hq]; rfl
  rw [hq] at HO
  have n1 := lH (fun W => l03Short_c e.reader W (by omega))
  have n2 := lH (fun W => l03Short_c e.topic W (by omega))
  have n3 := lH (fun W => l03Number2_c (n := e.index) W g3 (by omega))
  have e1 := shortB_size e.reader
  have e2 := shortB_size e.topic
  have e3 := pairB_size e.index
  have e0 : ((⟨#[82]⟩ : ByteArray)).size = 1 := rfl
  clear hq hf
  generalize shortB e.reader = p1 at *
  generalize shortB e.topic = p2 at *
  generalize pairB e.index = p3 at *
  obtain ⟨s1, hs1⟩ : ∃ s, s = ⟨#[82]⟩ ++ p1 := ⟨_, rfl⟩
  have c1 := fun W : World => run_string_add_sum (P := Tryz.prog) W ⟨#[82]⟩ p1 (by omega)
  have z1 : s1.size ≤ 22 := by rw [hs1, ByteArray.size_append]; omega
  rw [← hs1] at c1
  have HS1 := lH hs1
  clear hs1
  obtain ⟨s2, hs2⟩ : ∃ s, s = s1 ++ p2 := ⟨_, rfl⟩
  have c2 := fun W : World => run_string_add_sum (P := Tryz.prog) W s1 p2 (by omega)
  have z2 : s2.size ≤ 44 := by rw [hs2, ByteArray.size_append]; omega
  rw [← hs2] at c2
  have HS2 := lH hs2
  clear hs2
  obtain ⟨s3, hs3⟩ : ∃ s, s = s2 ++ p3 := ⟨_, rfl⟩
  have c3 := fun W : World => run_string_add_sum (P := Tryz.prog) W s2 p3 (by omega)
  have z3 : s3.size ≤ 48 := by rw [hs3, ByteArray.size_append]; omega
  rw [← hs3] at c3
  have HS3 := lH hs3
  clear hs3
  have HB : Hid (Below w.heap.size w w) := Below.refl _ _
  go_enter Tryz.func63, Tryz.ntmps63
  go_wp2_with fail
  refine calls_named (fun w1 hw => ?_)
  have hz1 : w.heap.size + 1 ≤ w1.heap.size := by rw [hw]; first | omega | simp [World.setCell] <;> omega
  have hzz1 : w.heap.size ≤ w1.heap.size := by omega
  have hbn : Below w.heap.size w w1 := by rw [hw]; exact (by repeat with_reducible first | exact bR _ | apply bA | apply bD)
  replace HB := lH (below_then HB.out hbn HB.out.size)
  clear hbn
  have HXh : Hid (NewBox w1 (w.heap.size) [.string e.reader, .string e.topic, .int .i64 e.index]) := by rw [Hid, hw]; exact ⟨by first | omega | (simp [World.setCell]; done) | (simp [World.setCell]; omega), fun o => by rcases o with _ | _ | _ | o <;> go_simp, fun o => by go_simp⟩
  obtain ⟨hkh, hxh, hfh⟩ := HXh.out
  clear hw
  refine (HO.out _).mono ?_
  rintro e w2 ⟨rfl, hb⟩
  have hzw2 : w1.heap.size ≤ w2.heap.size := hb.size
  have hzzw2 : w.heap.size ≤ w2.heap.size := by omega
  replace HB := lH (below_then HB.out hb HB.out.size)
  replace HXh := lH (HXh.out.below hb)
  clear hxh hfh hkh
  obtain ⟨hkh, hxh, hfh⟩ := HXh.out
  clear hb
  have l0 : ∀ v : Later w2, v.v.cell? ⟨w.heap.size, 0, none⟩ = some (.string e.reader) := fun v => (later_cell v _ _ hkh).trans (hxh 0)
  have l1 : ∀ v : Later w2, v.v.cell? ⟨w.heap.size, 1, none⟩ = some (.string e.topic) := fun v => (later_cell v _ _ hkh).trans (hxh 1)
  have l2 : ∀ v : Later w2, v.v.cell? ⟨w.heap.size, 2, none⟩ = some (.int .i64 e.index) := fun v => (later_cell v _ _ hkh).trans (hxh 2)
  go_wp2_with fail
  refine wp_region_later (by kernel_rfl) (by kernel_rfl) ?_
  repeat (go_big_quiet_step ((first | with_reducible exact later_call (n1.out _) | with_reducible exact later_call (n2.out _) | with_reducible exact later_call (n3.out _))))
  refine wpQuiet_nil ?_
  intro w9 h9
  have hb9 := later_below h9
  have HB9 := lH (below_then HB.out hb9 HB.out.size)
  clear l0 l1 l2 h9 hb9
  go_wp2
  refine bodyPost_ret (v := .tuple #[.string s3, .bool true]) (by simp [results, Tryz.results63, go_sem]) rfl ?_
  exact ⟨by rw [HM.out, HS3.out, HS2.out, HS1.out], HB9.out⟩
set_option maxRecDepth 100000 in
theorem implReceiptHash_c (width : Int) (e : Rcp) (w : World) (hf : e.fits) : Calls Tryz.prog 149 #[.int .i64 width, .agg #[.string e.reader, .string e.topic, .int .i64 e.index]] w fun r w' => r = .returned (.tuple #[.string (rcpHashM width e), .bool (rcpHashOk width e)]) ∧ Below w.heap.size w w' := by
 have HO := lH (fun W => implReceiptText_c e W hf)
 have HD := lH (fun W => implDigest_c width 2 (rcpTextM e) W (by have := rcpTextM_size e; unfold maxLen; omega))
 have HB1 : Hid (rcpHashM width e = if rcpOk e = true then digM width 2 (rcpTextM e) else ⟨#[]⟩) := lH rfl
 have HB2 : Hid (rcpHashOk width e = (rcpOk e && digOk width 2 (rcpTextM e))) := lH rfl
 clear hf
 generalize rcpOk e = q at *
 generalize rcpTextM e = tx at *
 generalize rcpHashM width e = lh at *
 generalize rcpHashOk width e = lo at *
 generalize digM width 2 tx = dg at *
 generalize digOk width 2 tx = dk at *
 have HB : Hid (Below w.heap.size w w) := Below.refl _ _
 go_enter Tryz.func149, Tryz.ntmps149
 go_wp2_with fail
 refine calls_named (fun w1 hw => ?_)
 have hz1 : w.heap.size + 1 ≤ w1.heap.size := by rw [hw]; first | omega | simp [World.setCell] <;> omega
 have hzz1 : w.heap.size ≤ w1.heap.size := by omega
 have hbn : Below w.heap.size w w1 := by rw [hw]; exact (by repeat with_reducible first | exact bR _ | apply bA | apply bD)
 replace HB := lH (below_then HB.out hbn HB.out.size)
 clear hbn
 have HXh : Hid (NewBox w1 (w.heap.size) [.string e.reader, .string e.topic, .int .i64 e.index]) := by rw [Hid, hw]; exact ⟨by first | omega | (simp [World.setCell]; done) | (simp [World.setCell]; omega), fun o => by rcases o with _ | _ | _ | o <;> go_simp, fun o => by go_simp⟩
 obtain ⟨hkh, hxh, hfh⟩ := HXh.out
 clear hw
 refine (HO.out _).mono ?_
 rintro e w2 ⟨rfl, hb⟩
 have hzw2 : w1.heap.size ≤ w2.heap.size := hb.size
 have hzzw2 : w.heap.size ≤ w2.heap.size := by omega
 replace HB := lH (below_then HB.out hb HB.out.size)
 replace HXh := lH (HXh.out.below hb)
 clear hxh hfh hkh
 obtain ⟨hkh, hxh, hfh⟩ := HXh.out
 clear hb
 rcases q with _ | _
 ·go_wp2
  refine bodyPost_ret (v := .tuple #[.string ⟨#[]⟩, .bool false]) (by simp [results, Tryz.results149, go_sem]) rfl ?_
  exact ⟨by rw [HB1.out, HB2.out]; rfl, HB.out⟩
 ·go_wp2_with fail
  refine calls_named (fun w3 hw => ?_)
  have hz3 : w2.heap.size + 0 ≤ w3.heap.size := by rw [hw]; first | omega | simp [World.setCell] <;> omega
  have hzz3 : w.heap.size ≤ w3.heap.size := by omega
  have hbn : Below w2.heap.size w2 w3 := by rw [hw]; exact (by repeat with_reducible first | exact bR _ | apply bA | apply bD)
  replace HB := lH (below_then HB.out hbn HB.out.size)
  replace HXh := lH (HXh.out.below hbn)
  clear hxh hfh hkh
  obtain ⟨hkh, hxh, hfh⟩ := HXh.out
  clear hbn
  clear hw
  refine (HD.out _).mono ?_
  rintro e w4 ⟨rfl, hb⟩
  have hzw4 : w3.heap.size ≤ w4.heap.size := hb.size
  have hzzw4 : w.heap.size ≤ w4.heap.size := by omega
  replace HB := lH (below_then HB.out hb HB.out.size)
  replace HXh := lH (HXh.out.below hb)
  clear hxh hfh hkh
  obtain ⟨hkh, hxh, hfh⟩ := HXh.out
  clear hb
  go_wp2
  refine bodyPost_ret (v := .tuple #[.string dg, .bool dk]) (by simp [results, Tryz.results149, go_sem]) rfl ?_
  exact ⟨by rw [HB1.out, HB2.out]; rfl, HB.out⟩
set_option maxRecDepth 100000 in
theorem specReceiptHash_c (width : Int) (e : Rcp) (w : World) (hf : e.fits) : Calls Tryz.prog 32 #[.int .i64 width, .agg #[.string e.reader, .string e.topic, .int .i64 e.index]] w fun r w' => r = .returned (.tuple #[.string (rcpHashM width e), .bool (rcpHashOk width e)]) ∧ Below w.heap.size w w' := by
 have HO := lH (fun W => specReceiptText_c e W hf)
 have HD := lH (fun W => specDigest_c width 2 (rcpTextM e) W (by have := rcpTextM_size e; unfold maxLen; omega))
 have HB1 : Hid (rcpHashM width e = if rcpOk e = true then digM width 2 (rcpTextM e) else ⟨#[]⟩) := lH rfl
 have HB2 : Hid (rcpHashOk width e = (rcpOk e && digOk width 2 (rcpTextM e))) := lH rfl
 clear hf
 generalize rcpOk e = q at *
 generalize rcpTextM e = tx at *
 generalize rcpHashM width e = lh at *
 generalize rcpHashOk width e = lo at *
 generalize digM width 2 tx = dg at *
 generalize digOk width 2 tx = dk at *
 have HB : Hid (Below w.heap.size w w) := Below.refl _ _
 go_enter Tryz.func32, Tryz.ntmps32
 go_wp2_with fail
 refine calls_named (fun w1 hw => ?_)
 have hz1 : w.heap.size + 1 ≤ w1.heap.size := by rw [hw]; first | omega | simp [World.setCell] <;> omega
 have hzz1 : w.heap.size ≤ w1.heap.size := by omega
 have hbn : Below w.heap.size w w1 := by rw [hw]; exact (by repeat with_reducible first | exact bR _ | apply bA | apply bD)
 replace HB := lH (below_then HB.out hbn HB.out.size)
 clear hbn
 have HXh : Hid (NewBox w1 (w.heap.size) [.string e.reader, .string e.topic, .int .i64 e.index]) := by rw [Hid, hw]; exact ⟨by first | omega | (simp [World.setCell]; done) | (simp [World.setCell]; omega), fun o => by rcases o with _ | _ | _ | o <;> go_simp, fun o => by go_simp⟩
 obtain ⟨hkh, hxh, hfh⟩ := HXh.out
 clear hw
 refine (HO.out _).mono ?_
 rintro e w2 ⟨rfl, hb⟩
 have hzw2 : w1.heap.size ≤ w2.heap.size := hb.size
 have hzzw2 : w.heap.size ≤ w2.heap.size := by omega
 replace HB := lH (below_then HB.out hb HB.out.size)
 replace HXh := lH (HXh.out.below hb)
 clear hxh hfh hkh
 obtain ⟨hkh, hxh, hfh⟩ := HXh.out
 clear hb
 rcases q with _ | _
 ·go_wp2
  refine bodyPost_ret (v := .tuple #[.string ⟨#[]⟩, .bool false]) (by simp [results, Tryz.results32, go_sem]) rfl ?_
  exact ⟨by rw [HB1.out, HB2.out]; rfl, HB.out⟩
 ·go_wp2_with fail
  refine calls_named (fun w3 hw => ?_)
  have hz3 : w2.heap.size + 0 ≤ w3.heap.size := by rw [hw]; first | omega | simp [World.setCell] <;> omega
  have hzz3 : w.heap.size ≤ w3.heap.size := by omega
  have hbn : Below w2.heap.size w2 w3 := by rw [hw]; exact (by repeat with_reducible first | exact bR _ | apply bA | apply bD)
  replace HB := lH (below_then HB.out hbn HB.out.size)
  replace HXh := lH (HXh.out.below hbn)
  clear hxh hfh hkh
  obtain ⟨hkh, hxh, hfh⟩ := HXh.out
  clear hbn
  clear hw
  refine (HD.out _).mono ?_
  rintro e w4 ⟨rfl, hb⟩
  have hzw4 : w3.heap.size ≤ w4.heap.size := hb.size
  have hzzw4 : w.heap.size ≤ w4.heap.size := by omega
  replace HB := lH (below_then HB.out hb HB.out.size)
  replace HXh := lH (HXh.out.below hb)
  clear hxh hfh hkh
  obtain ⟨hkh, hxh, hfh⟩ := HXh.out
  clear hb
  go_wp2
  refine bodyPost_ret (v := .tuple #[.string dg, .bool dk]) (by simp [results, Tryz.results32, go_sem]) rfl ?_
  exact ⟨by rw [HB1.out, HB2.out]; rfl, HB.out⟩
end
section
open Go.RowKit Go.Shelf
def firstFrom (p : Ent → Bool) : List Ent → Nat → Int
 | [], _ => -1
 | e :: r, k => if p e then (k : Int) else firstFrom p r (k + 1)
theorem drop_cons {l : List Ent} {k : Nat} {e : Ent} (h : l[k]? = some e) : l.drop k = e :: l.drop (k + 1) := by
 obtain ⟨hk, he⟩ := List.getElem?_eq_some_iff.1 h
 rw [List.drop_eq_getElem_cons hk, he]
theorem firstFrom_hit {p : Ent → Bool} {l : List Ent} {k : Nat} {e : Ent} (h : l[k]? = some e) (hp : p e = true) : firstFrom p (l.drop k) k = k := by
 rw [drop_cons h, firstFrom, if_pos hp]
theorem firstFrom_miss {p : Ent → Bool} {l : List Ent} {k : Nat} {e : Ent} (h : l[k]? = some e) (hp : p e = false) : firstFrom p (l.drop k) k = firstFrom p (l.drop (k + 1)) (k + 1) := by
 rw [drop_cons h, firstFrom, if_neg (by simp [hp])]
theorem firstFrom_end {p : Ent → Bool} {l : List Ent} : firstFrom p (l.drop l.length) l.length = -1 := by
 rw [List.drop_length, firstFrom]
def isTI (t : ByteArray) (i : Int) (e : Ent) : Bool := (e.topic.toList == t.toList) && (e.index == i)
def leafOfM (l : List Ent) (t : ByteArray) (i : Int) : Int := if logOk l then firstFrom (isTI t i) l 0 else -1
set_option maxRecDepth 100000 in
theorem l09Leaf_c (A : Option Addr) (c lo hi n : Nat) (l : List Ent) (t : ByteArray) (q : Int) (w : World) (hr : Rd w lo hi A (ents l)) (hn : l.length = n) (hl : n ≤ 1048576) :
  Calls Tryz.prog 105 #[.slice A n c, .string t, .int .i64 q] w fun e w' => e = .returned (.int .i64 (firstFrom (isTI t q) l 0)) ∧ w = w' := by
 have HN := lH hn
 clear hn
 go_enter Tryz.func105, Tryz.ntmps105
 go_wp2
 go_loop [7] (fun i => ∃ k : Nat, k ≤ n ∧ i = .int .i64 k ∧ firstFrom (isTI t q) l 0 = firstFrom (isTI t q) (l.drop k) k) (fun i => n - (intOf i).toNat)
 case atStart => exact ⟨0, Nat.zero_le _, rfl, rfl⟩
 case round =>
  obtain ⟨k, hk, rfl, hst⟩ := hrel
  have HST := lH hst
  clear hst
  by_cases hlt : k < n
  ·obtain ⟨b, off, x, rfl, _, _, hb, hks, hcell⟩ := hr.flat (f := Ent.cells) (m := 5) (fun _ => rfl) (by omega) (k := k) (by rw [HN.out]; exact hlt)
   have hc0 : w.cell? ⟨b, off + k * 5, none⟩ = some (.string x.topic) := hcell 0 _ rfl
   have hc1 : w.cell? ⟨b, off + k * 5 + 1, none⟩ = some (.int .i64 x.index) := hcell 1 _ rfl
   have hI1 : (0 : Int) ≤ (k : Int) := by omega
   have hI2 : (k : Int) < (n : Int) := by omega
   have HK := lH hks
   clear hcell hks hr
   rcases ht : (x.topic.toList == t.toList) with _ | _
   ·have HS := lH (firstFrom_miss (p := isTI t q) HK.out (by rw [isTI, ht, Bool.false_and]))
    go_wp2
    go_round
    case rel => exact ⟨k + 1, by omega, by go_num, by rw [HST.out, HS.out]⟩
    case measure => simp [intOf]; omega
   ·rcases hy : (x.index == q) with _ | _
    ·have HS := lH (firstFrom_miss (p := isTI t q) HK.out (by rw [isTI, hy, Bool.and_false]))
     go_wp2
     go_round
     case rel => exact ⟨k + 1, by omega, by go_num, by rw [HST.out, HS.out]⟩
     case measure => simp [intOf]; omega
    ·have HS := lH (firstFrom_hit (p := isTI t q) HK.out (by rw [isTI, hy, ht]; rfl))
     go_wp2
     go_ret
     exact ⟨ret_int (by rw [HST.out, HS.out]), rfl⟩
  ·obtain rfl : k = n := by omega
   go_wp2
   go_ret
   exact ⟨ret_int (by rw [HST.out, ← HN.out, firstFrom_end]), rfl⟩
set_option maxRecDepth 100000 in
theorem leafPred_c (t : ByteArray) (q : Int) (B1 B2 : Nat) (x : Ent) (w : World) (h1 : B1 < w.heap.size) (h2 : B2 < w.heap.size) (hc1 : w.cell? ⟨B1, 0, none⟩ = some (.string t)) (hc2 : w.cell? ⟨B2, 0, none⟩ = some (.int .i64 q)) :
  Calls Tryz.prog 131 #[.agg #[.string x.topic, .int .i64 x.index, .int .i64 x.time, .string x.key, .string x.body], .pointer (some ⟨B1, 0, none⟩), .pointer (some ⟨B2, 0, none⟩)] w fun e w' => e = .returned (.bool (isTI t q x)) ∧ Below w.heap.size w w' := by
 obtain ⟨topic, index, time, key, body⟩ := x
 rcases ht : (topic.toList == t.toList) with _ | _
 ·go_enter Tryz.func131, Tryz.ntmps131
  go_wp2
  go_ret
  exact ⟨ret_bool (by rw [isTI]; simp only; rw [ht]; rfl), (Below.refl _ _).alloc (Nat.le_refl _) _⟩
 ·go_enter Tryz.func131, Tryz.ntmps131
  go_wp2
  go_ret
  exact ⟨ret_bool (by rw [isTI]; simp only; rw [ht]; rfl), (Below.refl _ _).alloc (Nat.le_refl _) _⟩
set_option maxRecDepth 100000 in
theorem indexFunc_c (A : Option Addr) (c lo hi n : Nat) (l : List Ent) (t : ByteArray) (q : Int) (B1 B2 : Nat) (w : World) (hr : Rd w lo hi A (ents l)) (hn : l.length = n) (hl : n ≤ 1048576)
  (h1 : B1 < w.heap.size) (h2 : B2 < w.heap.size) (hc1 : w.cell? ⟨B1, 0, none⟩ = some (.string t)) (hc2 : w.cell? ⟨B2, 0, none⟩ = some (.int .i64 q)) :
  Calls Tryz.prog 130 #[.slice A n c, .func (.func 131) #[] #[.pointer (some ⟨B1, 0, none⟩), .pointer (some ⟨B2, 0, none⟩)]] w fun e w' => e = .returned (.int .i64 (firstFrom (isTI t q) l 0)) ∧ Below w.heap.size w w' := by
 have HN := lH hn
 clear hn
 have eg : ∀ args w, (callFunc 131 args).run Tryz.prog w = .ok (.enter 131 args) w := enters_of Tryz.func131 (by kernel_rfl) rfl
 go_enter Tryz.func130, Tryz.ntmps130
 go_wp2
 go_loopw [5, 8] (fun _ i wr => ∃ k : Nat, k ≤ n ∧ i = .int .i64 k ∧ firstFrom (isTI t q) l 0 = firstFrom (isTI t q) (l.drop k) k ∧ Below w.heap.size w wr) (fun _ i _ => n - (intOf i).toNat)
 case atStart => exact ⟨0, Nat.zero_le _, rfl, rfl, Below.refl _ _⟩
 case round =>
  obtain ⟨k, hk, rfl, hst, hb0⟩ := hrel
  have HST := lH hst
  have HB0 := lH hb0
  clear hst
  by_cases hlt : k < n
  ·obtain ⟨b, off, x, rfl, _, _, hb, hks, hcell⟩ := (hr.below hb0).flat (f := Ent.cells) (m := 5) (fun _ => rfl) (by omega) (k := k) (by rw [HN.out]; exact hlt)
   have hc0 : wr.cell? ⟨b, off + k * 5, none⟩ = some (.string x.topic) := hcell 0 _ rfl
   have hc1' : wr.cell? ⟨b, off + k * 5 + 1, none⟩ = some (.int .i64 x.index) := hcell 1 _ rfl
   have hc2' : wr.cell? ⟨b, off + k * 5 + 2, none⟩ = some (.int .i64 x.time) := hcell 2 _ rfl
   have hc3 : wr.cell? ⟨b, off + k * 5 + 3, none⟩ = some (.string x.key) := hcell 3 _ rfl
   have hc4 : wr.cell? ⟨b, off + k * 5 + 4, none⟩ = some (.string x.body) := hcell 4 _ rfl
   have hI1 : (0 : Int) ≤ (k : Int) := by omega
   have hI2 : (k : Int) < (n : Int) := by omega
   have HK := lH hks
   have HP := lH (leafPred_c t q B1 B2 x wr (Nat.lt_of_lt_of_le h1 hb0.size) (Nat.lt_of_lt_of_le h2 hb0.size) ((hb0.cell (p := ⟨B1, 0, none⟩) h1).trans hc1) ((hb0.cell (p := ⟨B2, 0, none⟩) h2).trans hc2))
   clear hcell hks hr hb0 hc1 hc2
   rcases hp : isTI t q x with _ | _
   ·have HS := lH (firstFrom_miss (p := isTI t q) HK.out hp)
    rw [hp] at HP
    go_wp2_with (go_at_fn 131; refine HP.out.mono ?_; rintro e w2 ⟨rfl, hb2⟩)
    go_roundw
    case rel => exact ⟨k + 1, by omega, by go_num, by rw [HST.out, HS.out], below_then HB0.out hb2 HB0.out.size⟩
    case measure => simp [intOf]; omega
   ·have HS := lH (firstFrom_hit (p := isTI t q) HK.out hp)
    rw [hp] at HP
    go_wp2_with (go_at_fn 131; refine HP.out.mono ?_; rintro e w2 ⟨rfl, hb2⟩)
    go_ret
    exact ⟨ret_int (by rw [HST.out, HS.out]), below_then HB0.out hb2 HB0.out.size⟩
  ·obtain rfl : k = n := by omega
   clear hr hb0
   go_wp2
   go_ret
   exact ⟨ret_int (by rw [HST.out, ← HN.out, firstFrom_end]), HB0.out⟩
set_option maxRecDepth 100000 in
theorem leafOf_c (A : Option Addr) (c lo hi n : Nat) (l : List Ent) (t : ByteArray) (q : Int) (w : World) (hr : Rd w lo hi A (ents l)) (hn : l.length = n) (hl : n ≤ 1048576) :
  Calls Tryz.prog 81 #[.agg #[.slice A n c], .string t, .int .i64 q] w fun e w' => e = .returned (.int .i64 (firstFrom (isTI t q) l 0)) ∧ Below w.heap.size w w' := by
 go_enter Tryz.func81, Tryz.ntmps81
 go_wp2_with fail
 refine (indexFunc_c A c _ _ n l t q _ _ _ (((hr.alloc _).alloc _).alloc _) hn hl (by first | omega | (simp; done) | (simp; omega)) (by simp) (by go_simp) (by go_simp)).mono ?_
 rintro e w1 ⟨rfl, hb1⟩
 have HB1 : Hid (Below w.heap.size w w1) := below_then ((((Below.refl _ _).alloc (Nat.le_refl _) _).alloc (by first | omega | (simp; done) | (simp; omega)) _).alloc (by first | omega | (simp; done) | (simp; omega)) _) hb1 (by first | omega | (simp; done) | (simp; omega))
 clear hb1
 go_wp2
 go_ret
 exact ⟨rfl, HB1.out⟩
end
section
open Go.RowKit
def sealFit (h : Hd) (z1 z2 : Int) (r1 r2 : ByteArray) : Bool := (h.size == z1) && (h.root.toList == r1.toList) && (h.taken == z2) && (h.troot.toList == r2.toList)
def sealOk (width z1 : Int) (l1 : List ByteArray) (z2 : Int) (l2 : List ByteArray) (h : Hd) : Bool := rngOk width z1 l1 && rngOk width z2 l2 && headOk width h && sealFit h z1 z2 (rrT width z1 l1) (rrT width z2 l2)
set_option maxRecDepth 100000 in
theorem specSealOk_c (width z1 z2 : Int) (A1 A2 : Option Addr) (c1 c2 lo1 hi1 lo2 hi2 m1 m2 : Nat) (l1 l2 : List ByteArray) (h : Hd) (w : World) (hR1 : Rd w lo1 hi1 A1 (strs l1)) (hR2 : Rd w lo2 hi2 A2 (strs l2)) (hn1 : l1.length = m1) (hn2 : l2.length = m2) (hm1 : m1 ≤ 1048576) (hm2 : m2 ≤ 1048576) (hz : h.bulk ≤ 1048576) :
  Calls Tryz.prog 156 #[.int .i64 width, .agg #[.int .i64 z1, .slice A1 m1 c1, .int .i64 z2, .slice A2 m2 c2, .int .i64 h.num, .int .i64 h.size, .string h.root, .int .i64 h.taken, .string h.troot]] w fun e w' => e = .returned (.bool (sealOk width z1 l1 z2 l2 h)) ∧ Below w.heap.size w w' := by
 have HC1 := lH (fun W (h : Rd W 0 W.heap.size A1 (strs l1)) => specRangeRoot_c width z1 A1 c1 0 W.heap.size m1 l1 W h hn1 hm1)
 have HC2 := lH (fun W (h : Rd W 0 W.heap.size A2 (strs l2)) => specRangeRoot_c width z2 A2 c2 0 W.heap.size m2 l2 W h hn2 hm2)
 have HC3 := lH (fun W => specHeadOk_c width h W hz)
 have HR1 : Hid (Rd w 0 w.heap.size A1 (strs l1)) := lH hR1.base
 have HR2 : Hid (Rd w 0 w.heap.size A2 (strs l2)) := lH hR2.base
 have HDEF : Hid (sealOk width z1 l1 z2 l2 h = (rngOk width z1 l1 && rngOk width z2 l2 && headOk width h && ((h.size == z1) && (h.root.toList == (rrT width z1 l1).toList) && (h.taken == z2) && (h.troot.toList == (rrT width z2 l2).toList)))) := lH rfl
 clear hR1 hR2 hn1 hn2
 generalize sealOk width z1 l1 z2 l2 h = so at *
 generalize rngOk width z1 l1 = q1 at *
 generalize rngOk width z2 l2 = q2 at *
 generalize headOk width h = q3 at *
 generalize rrT width z1 l1 = r1 at *
 generalize rrT width z2 l2 = r2 at *
 generalize rrN width z1 l1 = n1 at *
 generalize rrN width z2 l2 = n2 at *
 have HB : Hid (Below w.heap.size w w) := Below.refl _ _
 go_enter Tryz.func156, Tryz.ntmps156
 go_wp2_with fail
 refine calls_named (fun w1 hw => ?_)
 have hz1 : w.heap.size + 1 ≤ w1.heap.size := by rw [hw]; first | omega | simp [World.setCell] <;> omega
 have hzz1 : w.heap.size ≤ w1.heap.size := by omega
 have hbn : Below w.heap.size w w1 := by rw [hw]; exact (by repeat with_reducible first | exact bR _ | apply bA | apply bD)
 replace HB := lH (below_then HB.out hbn HB.out.size)
 clear hbn
 have HXs : Hid (NewBox w1 (w.heap.size) [.int .i64 z1, .slice A1 m1 c1, .int .i64 z2, .slice A2 m2 c2, .int .i64 h.num, .int .i64 h.size, .string h.root, .int .i64 h.taken, .string h.troot]) := by rw [Hid, hw]; exact ⟨by first | omega | (simp [World.setCell]; done) | (simp [World.setCell]; omega), fun o => by rcases o with _ | _ | _ | _ | _ | _ | _ | _ | _ | o <;> go_simp, fun o => by go_simp⟩
 obtain ⟨hks, hxs, hfs⟩ := HXs.out
 clear hw
 refine (HC1.out _ (HR1.out.below HB.out).base).mono ?_
 rintro e w2 ⟨rfl, hb⟩
 have hzw2 : w1.heap.size ≤ w2.heap.size := hb.size
 have hzzw2 : w.heap.size ≤ w2.heap.size := by omega
 replace HB := lH (below_then HB.out hb HB.out.size)
 replace HXs := lH (HXs.out.below hb)
 clear hxs hfs hks
 obtain ⟨hks, hxs, hfs⟩ := HXs.out
 clear hb
 go_wp2_with fail
 refine calls_named (fun w3 hw => ?_)
 have hz3 : w2.heap.size + 0 ≤ w3.heap.size := by rw [hw]; first | omega | simp [World.setCell] <;> omega
 have hzz3 : w.heap.size ≤ w3.heap.size := by omega
 have hbn : Below w2.heap.size w2 w3 := by rw [hw]; exact (by repeat with_reducible first | exact bR _ | apply bA | apply bD)
 replace HB := lH (below_then HB.out hbn HB.out.size)
 replace HXs := lH (HXs.out.below hbn)
 clear hxs hfs hks
 obtain ⟨hks, hxs, hfs⟩ := HXs.out
 clear hbn
 clear hw
 refine (HC2.out _ (HR2.out.below HB.out).base).mono ?_
 rintro e w4 ⟨rfl, hb⟩
 have hzw4 : w3.heap.size ≤ w4.heap.size := hb.size
 have hzzw4 : w.heap.size ≤ w4.heap.size := by omega
 replace HB := lH (below_then HB.out hb HB.out.size)
 replace HXs := lH (HXs.out.below hb)
 clear hxs hfs hks
 obtain ⟨hks, hxs, hfs⟩ := HXs.out
 clear hb
 rcases q1 with _ | _
 ·go_wp2
  go_ret
  exact ⟨ret_bool (by rw [HDEF.out]; rfl), HB.out⟩
 ·rcases q2 with _ | _
  ·go_wp2
   go_ret
   exact ⟨ret_bool (by rw [HDEF.out]; rfl), HB.out⟩
  ·skip
   go_wp2_with fail
   refine calls_named (fun w5 hw => ?_)
   have hz5 : w4.heap.size + 0 ≤ w5.heap.size := by rw [hw]; first | omega | simp [World.setCell] <;> omega
   have hzz5 : w.heap.size ≤ w5.heap.size := by omega
   have hbn : Below w4.heap.size w4 w5 := by rw [hw]; exact (by repeat with_reducible first | exact bR _ | apply bA | apply bD)
   replace HB := lH (below_then HB.out hbn HB.out.size)
   replace HXs := lH (HXs.out.below hbn)
   clear hxs hfs hks
   obtain ⟨hks, hxs, hfs⟩ := HXs.out
   clear hbn
   clear hw
   refine (HC3.out _).mono ?_
   rintro e w6 ⟨rfl, hb⟩
   have hzw6 : w5.heap.size ≤ w6.heap.size := hb.size
   have hzzw6 : w.heap.size ≤ w6.heap.size := by omega
   replace HB := lH (below_then HB.out hb HB.out.size)
   replace HXs := lH (HXs.out.below hb)
   clear hxs hfs hks
   obtain ⟨hks, hxs, hfs⟩ := HXs.out
   clear hb
   rcases q3 with _ | _
   ·go_wp2
    go_ret
    exact ⟨ret_bool (by rw [HDEF.out]; rfl), HB.out⟩
   ·rcases h1 : (h.size == z1) with _ | _ <;> rcases h2 : (h.root.toList == r1.toList) with _ | _ <;> rcases h3 : (h.taken == z2) with _ | _ <;> rcases h4 : (h.troot.toList == r2.toList) with _ | _
    all_goals
     rw [h1, h2, h3, h4] at HDEF
     go_wp2
     go_ret
     exact ⟨ret_bool (by rw [HDEF.out]; rfl), HB.out⟩
end
end Go.Proofs.YtoccjgcokffkbaaGreat
