/- Texts and hashes of heads. -/
import Derived.Test.YtojjjhbiccgjkaaHd
namespace Go.Proofs.Ytojjjhbiccgjkaa
set_option linter.unusedVariables false
set_option linter.unusedSimpArgs false
open Go.RowKit

theorem rootOkM_all {width size : Int} {root : ByteArray} (h : rootOkM width size root = true) : 0 ≤ size ∧ size ≤ 512 ∧ (root.size : Int) = width := by
  rw [rootOkM, Bool.and_eq_true, Bool.and_eq_true] at h
  have h1 := inR_true.1 h.1.1
  have h2 := of_decide_eq_true h.1.2
  exact ⟨h1.1, h1.2, h2⟩
theorem headOk_all {width : Int} {h : Hd} (hq : headOk width h = true) : 0 ≤ h.num ∧ h.num ≤ 399 ∧ 0 ≤ h.size ∧ h.size ≤ 512 ∧ 0 ≤ h.taken ∧ h.taken ≤ 512 ∧ h.root.size ≤ 32 ∧ h.troot.size ≤ 32 := by
  rw [headOk, Bool.and_eq_true, Bool.and_eq_true, Bool.and_eq_true] at hq
  have h0 := inR_true.1 hq.1.1.1
  have h1 := inR_true.1 hq.1.1.2
  have h2 := rootOkM_all hq.1.2
  have h3 := rootOkM_all hq.2
  omega
theorem headOk_width {width : Int} {h : Hd} (hq : headOk width h = true) : inR width 1 32 = true := by
  rw [headOk, Bool.and_eq_true, Bool.and_eq_true, Bool.and_eq_true] at hq
  exact hq.1.1.1
def headTextM (width : Int) (h : Hd) : ByteArray := if headOk width h then pairB h.num ++ pairB h.size ++ h.root ++ pairB h.taken ++ h.troot else ByteArray.empty
def headHashM (width : Int) (h : Hd) : ByteArray := if headOk width h then digM width 3 (headTextM width h) else ByteArray.empty
theorem headTextM_size (width : Int) (h : Hd) : (headTextM width h).size ≤ 70 := by
  by_cases hq : headOk width h = true
  · have := headOk_all hq
    rw [headTextM, if_pos hq]
    simp only [ByteArray.size_append, pairB_size]
    omega
  · rw [headTextM, if_neg hq]; exact Nat.zero_le _
theorem headText_ok (width : Int) (h : Hd) (hq : headOk width h = true) : digOk width 3 (headTextM width h) = true := by
  have := headTextM_size width h
  rw [digOk, headOk_width hq, decide_eq_true (by omega)]; rfl
theorem l03Number2_c {n : Int} (w : World) (h0 : 0 ≤ n) (h : n ≤ 100000000) : Calls Try.prog 102 #[.int .i64 n, .int .i64 2] w fun e w' => e = .returned (.string (pairB n)) ∧ Below w.heap.size w w' := by
  have := l03Number_c n 2 w h0 (by omega) (by omega)
  rwa [numUp_2] at this
set_option maxRecDepth 100000 in
set_option maxHeartbeats 400000 in
theorem implHeadText_c (width : Int) (h : Hd) (w : World) (hz : h.bulk ≤ 1048576) : Calls Try.prog 40 #[.int .i64 width, .agg #[.int .i64 h.num, .int .i64 h.size, .string h.root, .int .i64 h.taken, .string h.troot]] w fun e w' => e = .returned (.tuple #[.string (headTextM width h), .bool (headOk width h)]) ∧ Below w.heap.size w w' := by
  have HO := Lib.hid (fun W => implHeadOk_c width h W hz)
  rcases hq : headOk width h with _ | _
  · have HM : Hid (headTextM width h = ⟨#[]⟩) := by rw [Hid, headTextM, hq]; rfl
    rw [hq] at HO
    clear hq
    have HB : Hid (Below w.heap.size w w) := Below.refl _ _
    go_enter Try.func40, Try.ntmps40
    go_wp2_with fail
    refine calls_named (fun w1 hw => ?_)
    have hz1 : w.heap.size + 1 ≤ w1.heap.size := by rw [hw]; first | omega | (simp [World.setCell]; done) | (simp [World.setCell]; omega)
    have hzz1 : w.heap.size ≤ w1.heap.size := by omega
    replace HB : Hid (Below w.heap.size w w1) := by rw [Hid, hw]; exact (by ((repeat (first | ((with_reducible refine Below.alloc ?_ ?_ _); rotate_left 1; (focus (first | omega | (simp; done) | (simp; omega)))) | (with_reducible refine Below.drew ?_) | ((with_reducible refine Below.setCell ?_ ?_ _); rotate_left 1; (focus (first | omega | (simp; done) | (simp; omega)))))); exact HB.out))
    have HXh : Hid (NewBox w1 (w.heap.size) [.int .i64 h.num, .int .i64 h.size, .string h.root, .int .i64 h.taken, .string h.troot]) := by rw [Hid, hw]; exact ⟨by first | omega | (simp [World.setCell]; done) | (simp [World.setCell]; omega), fun o => by rcases o with _ | _ | _ | _ | _ | o <;> go_simp, fun o => by go_simp⟩
    have hxh := HXh.out.2.1
    have hfh := HXh.out.2.2
    have hkh := HXh.out.1
    clear hw
    refine (HO.out _).mono ?_
    rintro e w2 ⟨rfl, hb⟩
    have hzw2 : w1.heap.size ≤ w2.heap.size := hb.size
    have hzzw2 : w.heap.size ≤ w2.heap.size := by omega
    replace HB : Hid (Below w.heap.size w w2) := below_then HB.out hb HB.out.size
    replace HXh : Hid (NewBox w2 (w.heap.size) [.int .i64 h.num, .int .i64 h.size, .string h.root, .int .i64 h.taken, .string h.troot]) := HXh.out.below hb
    clear hxh hfh hkh
    have hxh := HXh.out.2.1
    have hfh := HXh.out.2.2
    have hkh := HXh.out.1
    clear hb
    go_wp2
    refine bodyPost_ret (v := .tuple #[.string ⟨#[]⟩, .bool false]) (by simp [results, Try.results40, go_sem]) rfl ?_
    exact ⟨by rw [HM.out], HB.out⟩
  · have hb := headOk_all hq
    obtain ⟨g1, g2, g3, g4, g5, g6, g7, g8⟩ := hb
    have HM : Hid (headTextM width h = pairB h.num ++ pairB h.size ++ h.root ++ pairB h.taken ++ h.troot) := by rw [Hid, headTextM, hq]; rfl
    rw [hq] at HO
    have n1 := Lib.hid (fun W => pair_c (n := h.num) W g1 (by omega))
    have n2 := Lib.hid (fun W => pair_c (n := h.size) W g3 (by omega))
    have n3 := Lib.hid (fun W => pair_c (n := h.taken) W g5 (by omega))
    have e1 := pairB_size h.num
    have e2 := pairB_size h.size
    have e3 := pairB_size h.taken
    clear hq hz
    generalize pairB h.num = p1 at *
    generalize pairB h.size = p2 at *
    generalize pairB h.taken = p3 at *
    obtain ⟨s1, hs1⟩ : ∃ s, s = p1 ++ p2 := ⟨_, rfl⟩
    have c1 := fun W : World => run_string_add_sum (P := Try.prog) W p1 p2 (by omega)
    have z1 : s1.size ≤ 4 := by rw [hs1, ByteArray.size_append]; omega
    rw [← hs1] at c1
    have HS1 := Lib.hid hs1
    clear hs1
    obtain ⟨s2, hs2⟩ : ∃ s, s = s1 ++ h.root := ⟨_, rfl⟩
    have c2 := fun W : World => run_string_add_sum (P := Try.prog) W s1 h.root (by omega)
    have z2 : s2.size ≤ 40 := by rw [hs2, ByteArray.size_append]; omega
    rw [← hs2] at c2
    have HS2 := Lib.hid hs2
    clear hs2
    obtain ⟨s3, hs3⟩ : ∃ s, s = s2 ++ p3 := ⟨_, rfl⟩
    have c3 := fun W : World => run_string_add_sum (P := Try.prog) W s2 p3 (by omega)
    have z3 : s3.size ≤ 50 := by rw [hs3, ByteArray.size_append]; omega
    rw [← hs3] at c3
    have HS3 := Lib.hid hs3
    clear hs3
    obtain ⟨s4, hs4⟩ : ∃ s, s = s3 ++ h.troot := ⟨_, rfl⟩
    have c4 := fun W : World => run_string_add_sum (P := Try.prog) W s3 h.troot (by omega)
    have z4 : s4.size ≤ 90 := by rw [hs4, ByteArray.size_append]; omega
    rw [← hs4] at c4
    have HS4 := Lib.hid hs4
    clear hs4
    have HB : Hid (Below w.heap.size w w) := Below.refl _ _
    go_enter Try.func40, Try.ntmps40
    go_wp2_with fail
    refine calls_named (fun w1 hw => ?_)
    have hz1 : w.heap.size + 1 ≤ w1.heap.size := by rw [hw]; first | omega | (simp [World.setCell]; done) | (simp [World.setCell]; omega)
    have hzz1 : w.heap.size ≤ w1.heap.size := by omega
    replace HB : Hid (Below w.heap.size w w1) := by rw [Hid, hw]; exact (by ((repeat (first | ((with_reducible refine Below.alloc ?_ ?_ _); rotate_left 1; (focus (first | omega | (simp; done) | (simp; omega)))) | (with_reducible refine Below.drew ?_) | ((with_reducible refine Below.setCell ?_ ?_ _); rotate_left 1; (focus (first | omega | (simp; done) | (simp; omega)))))); exact HB.out))
    have HXh : Hid (NewBox w1 (w.heap.size) [.int .i64 h.num, .int .i64 h.size, .string h.root, .int .i64 h.taken, .string h.troot]) := by rw [Hid, hw]; exact ⟨by first | omega | (simp [World.setCell]; done) | (simp [World.setCell]; omega), fun o => by rcases o with _ | _ | _ | _ | _ | o <;> go_simp, fun o => by go_simp⟩
    have hxh := HXh.out.2.1
    have hfh := HXh.out.2.2
    have hkh := HXh.out.1
    clear hw
    refine (HO.out _).mono ?_
    rintro e w2 ⟨rfl, hb⟩
    have hzw2 : w1.heap.size ≤ w2.heap.size := hb.size
    have hzzw2 : w.heap.size ≤ w2.heap.size := by omega
    replace HB : Hid (Below w.heap.size w w2) := below_then HB.out hb HB.out.size
    replace HXh : Hid (NewBox w2 (w.heap.size) [.int .i64 h.num, .int .i64 h.size, .string h.root, .int .i64 h.taken, .string h.troot]) := HXh.out.below hb
    clear hxh hfh hkh
    have hxh := HXh.out.2.1
    have hfh := HXh.out.2.2
    have hkh := HXh.out.1
    clear hb
    have l0 : ∀ v : Later w2, v.v.cell? ⟨w.heap.size, 0, none⟩ = some (.int .i64 h.num) := fun v => (later_cell v _ _ hkh).trans (hxh 0)
    have l1 : ∀ v : Later w2, v.v.cell? ⟨w.heap.size, 1, none⟩ = some (.int .i64 h.size) := fun v => (later_cell v _ _ hkh).trans (hxh 1)
    have l2 : ∀ v : Later w2, v.v.cell? ⟨w.heap.size, 2, none⟩ = some (.string h.root) := fun v => (later_cell v _ _ hkh).trans (hxh 2)
    have l3 : ∀ v : Later w2, v.v.cell? ⟨w.heap.size, 3, none⟩ = some (.int .i64 h.taken) := fun v => (later_cell v _ _ hkh).trans (hxh 3)
    have l4 : ∀ v : Later w2, v.v.cell? ⟨w.heap.size, 4, none⟩ = some (.string h.troot) := fun v => (later_cell v _ _ hkh).trans (hxh 4)
    go_wp2_with fail
    refine wp_region_later (by kernel_rfl) (by kernel_rfl) ?_
    repeat (go_big_quiet_step ((first | with_reducible exact later_call (n1.out _) | with_reducible exact later_call (n2.out _) | with_reducible exact later_call (n3.out _))))
    refine wpQuiet_nil ?_
    intro w9 h9
    have hb9 := later_below h9
    have HB9 := Lib.hid (below_then HB.out hb9 HB.out.size)
    clear l0 l1 l2 l3 l4 h9 hb9 hxh hfh
    go_wp2
    refine bodyPost_ret (v := .tuple #[.string s4, .bool true]) (by simp [results, Try.results40, go_sem]) rfl ?_
    exact ⟨by rw [HM.out, HS4.out, HS3.out, HS2.out, HS1.out], HB9.out⟩
set_option maxRecDepth 100000 in
set_option maxHeartbeats 400000 in
theorem specHeadText_c (width : Int) (h : Hd) (w : World) (hz : h.bulk ≤ 1048576) : Calls Try.prog 39 #[.int .i64 width, .agg #[.int .i64 h.num, .int .i64 h.size, .string h.root, .int .i64 h.taken, .string h.troot]] w fun e w' => e = .returned (.tuple #[.string (headTextM width h), .bool (headOk width h)]) ∧ Below w.heap.size w w' := by
  have HO := Lib.hid (fun W => specHeadOk_c width h W hz)
  rcases hq : headOk width h with _ | _
  · have HM : Hid (headTextM width h = ⟨#[]⟩) := by rw [Hid, headTextM, hq]; rfl
    rw [hq] at HO
    clear hq
    have HB : Hid (Below w.heap.size w w) := Below.refl _ _
    go_enter Try.func39, Try.ntmps39
    go_wp2_with fail
    refine calls_named (fun w1 hw => ?_)
    have hz1 : w.heap.size + 1 ≤ w1.heap.size := by rw [hw]; first | omega | (simp [World.setCell]; done) | (simp [World.setCell]; omega)
    have hzz1 : w.heap.size ≤ w1.heap.size := by omega
    replace HB : Hid (Below w.heap.size w w1) := by rw [Hid, hw]; exact (by ((repeat (first | ((with_reducible refine Below.alloc ?_ ?_ _); rotate_left 1; (focus (first | omega | (simp; done) | (simp; omega)))) | (with_reducible refine Below.drew ?_) | ((with_reducible refine Below.setCell ?_ ?_ _); rotate_left 1; (focus (first | omega | (simp; done) | (simp; omega)))))); exact HB.out))
    have HXh : Hid (NewBox w1 (w.heap.size) [.int .i64 h.num, .int .i64 h.size, .string h.root, .int .i64 h.taken, .string h.troot]) := by rw [Hid, hw]; exact ⟨by first | omega | (simp [World.setCell]; done) | (simp [World.setCell]; omega), fun o => by rcases o with _ | _ | _ | _ | _ | o <;> go_simp, fun o => by go_simp⟩
    have hxh := HXh.out.2.1
    have hfh := HXh.out.2.2
    have hkh := HXh.out.1
    clear hw
    refine (HO.out _).mono ?_
    rintro e w2 ⟨rfl, hb⟩
    have hzw2 : w1.heap.size ≤ w2.heap.size := hb.size
    have hzzw2 : w.heap.size ≤ w2.heap.size := by omega
    replace HB : Hid (Below w.heap.size w w2) := below_then HB.out hb HB.out.size
    replace HXh : Hid (NewBox w2 (w.heap.size) [.int .i64 h.num, .int .i64 h.size, .string h.root, .int .i64 h.taken, .string h.troot]) := HXh.out.below hb
    clear hxh hfh hkh
    have hxh := HXh.out.2.1
    have hfh := HXh.out.2.2
    have hkh := HXh.out.1
    clear hb
    go_wp2
    refine bodyPost_ret (v := .tuple #[.string ⟨#[]⟩, .bool false]) (by simp [results, Try.results39, go_sem]) rfl ?_
    exact ⟨by rw [HM.out], HB.out⟩
  · have hb := headOk_all hq
    obtain ⟨g1, g2, g3, g4, g5, g6, g7, g8⟩ := hb
    have HM : Hid (headTextM width h = pairB h.num ++ pairB h.size ++ h.root ++ pairB h.taken ++ h.troot) := by rw [Hid, headTextM, hq]; rfl
    rw [hq] at HO
    have n1 := Lib.hid (fun W => l03Number2_c (n := h.num) W g1 (by omega))
    have n2 := Lib.hid (fun W => l03Number2_c (n := h.size) W g3 (by omega))
    have n3 := Lib.hid (fun W => l03Number2_c (n := h.taken) W g5 (by omega))
    have e1 := pairB_size h.num
    have e2 := pairB_size h.size
    have e3 := pairB_size h.taken
    clear hq hz
    generalize pairB h.num = p1 at *
    generalize pairB h.size = p2 at *
    generalize pairB h.taken = p3 at *
    obtain ⟨s1, hs1⟩ : ∃ s, s = p1 ++ p2 := ⟨_, rfl⟩
    have c1 := fun W : World => run_string_add_sum (P := Try.prog) W p1 p2 (by omega)
    have z1 : s1.size ≤ 4 := by rw [hs1, ByteArray.size_append]; omega
    rw [← hs1] at c1
    have HS1 := Lib.hid hs1
    clear hs1
    obtain ⟨s2, hs2⟩ : ∃ s, s = s1 ++ h.root := ⟨_, rfl⟩
    have c2 := fun W : World => run_string_add_sum (P := Try.prog) W s1 h.root (by omega)
    have z2 : s2.size ≤ 40 := by rw [hs2, ByteArray.size_append]; omega
    rw [← hs2] at c2
    have HS2 := Lib.hid hs2
    clear hs2
    obtain ⟨s3, hs3⟩ : ∃ s, s = s2 ++ p3 := ⟨_, rfl⟩
    have c3 := fun W : World => run_string_add_sum (P := Try.prog) W s2 p3 (by omega)
    have z3 : s3.size ≤ 50 := by rw [hs3, ByteArray.size_append]; omega
    rw [← hs3] at c3
    have HS3 := Lib.hid hs3
    clear hs3
    obtain ⟨s4, hs4⟩ : ∃ s, s = s3 ++ h.troot := ⟨_, rfl⟩
    have c4 := fun W : World => run_string_add_sum (P := Try.prog) W s3 h.troot (by omega)
    have z4 : s4.size ≤ 90 := by rw [hs4, ByteArray.size_append]; omega
    rw [← hs4] at c4
    have HS4 := Lib.hid hs4
    clear hs4
    have HB : Hid (Below w.heap.size w w) := Below.refl _ _
    go_enter Try.func39, Try.ntmps39
    go_wp2_with fail
    refine calls_named (fun w1 hw => ?_)
    have hz1 : w.heap.size + 1 ≤ w1.heap.size := by rw [hw]; first | omega | (simp [World.setCell]; done) | (simp [World.setCell]; omega)
    have hzz1 : w.heap.size ≤ w1.heap.size := by omega
    replace HB : Hid (Below w.heap.size w w1) := by rw [Hid, hw]; exact (by ((repeat (first | ((with_reducible refine Below.alloc ?_ ?_ _); rotate_left 1; (focus (first | omega | (simp; done) | (simp; omega)))) | (with_reducible refine Below.drew ?_) | ((with_reducible refine Below.setCell ?_ ?_ _); rotate_left 1; (focus (first | omega | (simp; done) | (simp; omega)))))); exact HB.out))
    have HXh : Hid (NewBox w1 (w.heap.size) [.int .i64 h.num, .int .i64 h.size, .string h.root, .int .i64 h.taken, .string h.troot]) := by rw [Hid, hw]; exact ⟨by first | omega | (simp [World.setCell]; done) | (simp [World.setCell]; omega), fun o => by rcases o with _ | _ | _ | _ | _ | o <;> go_simp, fun o => by go_simp⟩
    have hxh := HXh.out.2.1
    have hfh := HXh.out.2.2
    have hkh := HXh.out.1
    clear hw
    refine (HO.out _).mono ?_
    rintro e w2 ⟨rfl, hb⟩
    have hzw2 : w1.heap.size ≤ w2.heap.size := hb.size
    have hzzw2 : w.heap.size ≤ w2.heap.size := by omega
    replace HB : Hid (Below w.heap.size w w2) := below_then HB.out hb HB.out.size
    replace HXh : Hid (NewBox w2 (w.heap.size) [.int .i64 h.num, .int .i64 h.size, .string h.root, .int .i64 h.taken, .string h.troot]) := HXh.out.below hb
    clear hxh hfh hkh
    have hxh := HXh.out.2.1
    have hfh := HXh.out.2.2
    have hkh := HXh.out.1
    clear hb
    have l0 : ∀ v : Later w2, v.v.cell? ⟨w.heap.size, 0, none⟩ = some (.int .i64 h.num) := fun v => (later_cell v _ _ hkh).trans (hxh 0)
    have l1 : ∀ v : Later w2, v.v.cell? ⟨w.heap.size, 1, none⟩ = some (.int .i64 h.size) := fun v => (later_cell v _ _ hkh).trans (hxh 1)
    have l2 : ∀ v : Later w2, v.v.cell? ⟨w.heap.size, 2, none⟩ = some (.string h.root) := fun v => (later_cell v _ _ hkh).trans (hxh 2)
    have l3 : ∀ v : Later w2, v.v.cell? ⟨w.heap.size, 3, none⟩ = some (.int .i64 h.taken) := fun v => (later_cell v _ _ hkh).trans (hxh 3)
    have l4 : ∀ v : Later w2, v.v.cell? ⟨w.heap.size, 4, none⟩ = some (.string h.troot) := fun v => (later_cell v _ _ hkh).trans (hxh 4)
    go_wp2_with fail
    refine wp_region_later (by kernel_rfl) (by kernel_rfl) ?_
    repeat (go_big_quiet_step ((first | with_reducible exact later_call (n1.out _) | with_reducible exact later_call (n2.out _) | with_reducible exact later_call (n3.out _))))
    refine wpQuiet_nil ?_
    intro w9 h9
    have hb9 := later_below h9
    have HB9 := Lib.hid (below_then HB.out hb9 HB.out.size)
    clear l0 l1 l2 l3 l4 h9 hb9 hxh hfh
    go_wp2
    refine bodyPost_ret (v := .tuple #[.string s4, .bool true]) (by simp [results, Try.results39, go_sem]) rfl ?_
    exact ⟨by rw [HM.out, HS4.out, HS3.out, HS2.out, HS1.out], HB9.out⟩
set_option maxRecDepth 100000 in
set_option maxHeartbeats 400000 in
theorem implHeadHash_c (width : Int) (h : Hd) (w : World) (hz : h.bulk ≤ 1048576) : Calls Try.prog 47 #[.int .i64 width, .agg #[.int .i64 h.num, .int .i64 h.size, .string h.root, .int .i64 h.taken, .string h.troot]] w fun e w' => e = .returned (.tuple #[.string (headHashM width h), .bool (headOk width h)]) ∧ Below w.heap.size w w' := by
  have HO := Lib.hid (fun W => implHeadText_c width h W hz)
  have ho := headText_ok width h
  have HD := Lib.hid (fun W => implDigest_c width 3 (headTextM width h) W (by have := headTextM_size width h; unfold maxLen; omega))
  rcases hq : headOk width h with _ | _
  · have HM : Hid (headHashM width h = ⟨#[]⟩) := by rw [Hid, headHashM, hq]; rfl
    rw [hq] at HO
    clear hq
    generalize headTextM width h = tx at *
    have HB : Hid (Below w.heap.size w w) := Below.refl _ _
    go_enter Try.func47, Try.ntmps47
    go_wp2_with fail
    refine calls_named (fun w1 hw => ?_)
    have hz1 : w.heap.size + 1 ≤ w1.heap.size := by rw [hw]; first | omega | (simp [World.setCell]; done) | (simp [World.setCell]; omega)
    have hzz1 : w.heap.size ≤ w1.heap.size := by omega
    replace HB : Hid (Below w.heap.size w w1) := by rw [Hid, hw]; exact (by ((repeat (first | ((with_reducible refine Below.alloc ?_ ?_ _); rotate_left 1; (focus (first | omega | (simp; done) | (simp; omega)))) | (with_reducible refine Below.drew ?_) | ((with_reducible refine Below.setCell ?_ ?_ _); rotate_left 1; (focus (first | omega | (simp; done) | (simp; omega)))))); exact HB.out))
    have HXh : Hid (NewBox w1 (w.heap.size) [.int .i64 h.num, .int .i64 h.size, .string h.root, .int .i64 h.taken, .string h.troot]) := by rw [Hid, hw]; exact ⟨by first | omega | (simp [World.setCell]; done) | (simp [World.setCell]; omega), fun o => by rcases o with _ | _ | _ | _ | _ | o <;> go_simp, fun o => by go_simp⟩
    have hxh := HXh.out.2.1
    have hfh := HXh.out.2.2
    have hkh := HXh.out.1
    clear hw
    refine (HO.out _).mono ?_
    rintro e w2 ⟨rfl, hb⟩
    have hzw2 : w1.heap.size ≤ w2.heap.size := hb.size
    have hzzw2 : w.heap.size ≤ w2.heap.size := by omega
    replace HB : Hid (Below w.heap.size w w2) := below_then HB.out hb HB.out.size
    replace HXh : Hid (NewBox w2 (w.heap.size) [.int .i64 h.num, .int .i64 h.size, .string h.root, .int .i64 h.taken, .string h.troot]) := HXh.out.below hb
    clear hxh hfh hkh
    have hxh := HXh.out.2.1
    have hfh := HXh.out.2.2
    have hkh := HXh.out.1
    clear hb
    go_wp2
    refine bodyPost_ret (v := .tuple #[.string ⟨#[]⟩, .bool false]) (by simp [results, Try.results47, go_sem]) rfl ?_
    exact ⟨by rw [HM.out], HB.out⟩
  · have HM : Hid (headHashM width h = digM width 3 (headTextM width h)) := by rw [Hid, headHashM, hq]; rfl
    rw [ho hq] at HD
    rw [hq] at HO
    clear hq ho
    generalize headTextM width h = tx at *
    generalize digM width 3 tx = dg at *
    have HB : Hid (Below w.heap.size w w) := Below.refl _ _
    go_enter Try.func47, Try.ntmps47
    go_wp2_with fail
    refine calls_named (fun w1 hw => ?_)
    have hz1 : w.heap.size + 1 ≤ w1.heap.size := by rw [hw]; first | omega | (simp [World.setCell]; done) | (simp [World.setCell]; omega)
    have hzz1 : w.heap.size ≤ w1.heap.size := by omega
    replace HB : Hid (Below w.heap.size w w1) := by rw [Hid, hw]; exact (by ((repeat (first | ((with_reducible refine Below.alloc ?_ ?_ _); rotate_left 1; (focus (first | omega | (simp; done) | (simp; omega)))) | (with_reducible refine Below.drew ?_) | ((with_reducible refine Below.setCell ?_ ?_ _); rotate_left 1; (focus (first | omega | (simp; done) | (simp; omega)))))); exact HB.out))
    have HXh : Hid (NewBox w1 (w.heap.size) [.int .i64 h.num, .int .i64 h.size, .string h.root, .int .i64 h.taken, .string h.troot]) := by rw [Hid, hw]; exact ⟨by first | omega | (simp [World.setCell]; done) | (simp [World.setCell]; omega), fun o => by rcases o with _ | _ | _ | _ | _ | o <;> go_simp, fun o => by go_simp⟩
    have hxh := HXh.out.2.1
    have hfh := HXh.out.2.2
    have hkh := HXh.out.1
    clear hw
    refine (HO.out _).mono ?_
    rintro e w2 ⟨rfl, hb⟩
    have hzw2 : w1.heap.size ≤ w2.heap.size := hb.size
    have hzzw2 : w.heap.size ≤ w2.heap.size := by omega
    replace HB : Hid (Below w.heap.size w w2) := below_then HB.out hb HB.out.size
    replace HXh : Hid (NewBox w2 (w.heap.size) [.int .i64 h.num, .int .i64 h.size, .string h.root, .int .i64 h.taken, .string h.troot]) := HXh.out.below hb
    clear hxh hfh hkh
    have hxh := HXh.out.2.1
    have hfh := HXh.out.2.2
    have hkh := HXh.out.1
    clear hb
    go_wp2_with fail
    refine calls_named (fun w3 hw => ?_)
    have hz3 : w2.heap.size + 0 ≤ w3.heap.size := by rw [hw]; first | omega | (simp [World.setCell]; done) | (simp [World.setCell]; omega)
    have hzz3 : w.heap.size ≤ w3.heap.size := by omega
    replace HB : Hid (Below w.heap.size w w3) := by rw [Hid, hw]; exact (by ((repeat (first | ((with_reducible refine Below.alloc ?_ ?_ _); rotate_left 1; (focus (first | omega | (simp; done) | (simp; omega)))) | (with_reducible refine Below.drew ?_) | ((with_reducible refine Below.setCell ?_ ?_ _); rotate_left 1; (focus (first | omega | (simp; done) | (simp; omega)))))); exact HB.out))
    replace HXh : Hid (NewBox w3 (w.heap.size) [.int .i64 h.num, .int .i64 h.size, .string h.root, .int .i64 h.taken, .string h.troot]) := by rw [Hid, hw]; (repeat (first | (with_reducible refine NewBox.alloc ?_ _) | (with_reducible refine NewBox.drew ?_) | ((with_reducible refine NewBox.setCell ?_ ?_ _); rotate_left 1; (focus (first | omega | (simp; done) | (simp; omega)))))); exact HXh.out
    clear hxh hfh hkh
    have hxh := HXh.out.2.1
    have hfh := HXh.out.2.2
    have hkh := HXh.out.1
    clear hw
    refine (HD.out _).mono ?_
    rintro e w4 ⟨rfl, hb⟩
    have hzw4 : w3.heap.size ≤ w4.heap.size := hb.size
    have hzzw4 : w.heap.size ≤ w4.heap.size := by omega
    replace HB : Hid (Below w.heap.size w w4) := below_then HB.out hb HB.out.size
    replace HXh : Hid (NewBox w4 (w.heap.size) [.int .i64 h.num, .int .i64 h.size, .string h.root, .int .i64 h.taken, .string h.troot]) := HXh.out.below hb
    clear hxh hfh hkh
    have hxh := HXh.out.2.1
    have hfh := HXh.out.2.2
    have hkh := HXh.out.1
    clear hb
    go_wp2
    refine bodyPost_ret (v := .tuple #[.string dg, .bool true]) (by simp [results, Try.results47, go_sem]) rfl ?_
    exact ⟨by rw [HM.out], HB.out⟩
set_option maxRecDepth 100000 in
set_option maxHeartbeats 400000 in
theorem specHeadHash_c (width : Int) (h : Hd) (w : World) (hz : h.bulk ≤ 1048576) : Calls Try.prog 46 #[.int .i64 width, .agg #[.int .i64 h.num, .int .i64 h.size, .string h.root, .int .i64 h.taken, .string h.troot]] w fun e w' => e = .returned (.tuple #[.string (headHashM width h), .bool (headOk width h)]) ∧ Below w.heap.size w w' := by
  have HO := Lib.hid (fun W => specHeadText_c width h W hz)
  have ho := headText_ok width h
  have HD := Lib.hid (fun W => specDigest_c width 3 (headTextM width h) W (by have := headTextM_size width h; unfold maxLen; omega))
  rcases hq : headOk width h with _ | _
  · have HM : Hid (headHashM width h = ⟨#[]⟩) := by rw [Hid, headHashM, hq]; rfl
    rw [hq] at HO
    clear hq
    generalize headTextM width h = tx at *
    have HB : Hid (Below w.heap.size w w) := Below.refl _ _
    go_enter Try.func46, Try.ntmps46
    go_wp2_with fail
    refine calls_named (fun w1 hw => ?_)
    have hz1 : w.heap.size + 1 ≤ w1.heap.size := by rw [hw]; first | omega | (simp [World.setCell]; done) | (simp [World.setCell]; omega)
    have hzz1 : w.heap.size ≤ w1.heap.size := by omega
    replace HB : Hid (Below w.heap.size w w1) := by rw [Hid, hw]; exact (by ((repeat (first | ((with_reducible refine Below.alloc ?_ ?_ _); rotate_left 1; (focus (first | omega | (simp; done) | (simp; omega)))) | (with_reducible refine Below.drew ?_) | ((with_reducible refine Below.setCell ?_ ?_ _); rotate_left 1; (focus (first | omega | (simp; done) | (simp; omega)))))); exact HB.out))
    have HXh : Hid (NewBox w1 (w.heap.size) [.int .i64 h.num, .int .i64 h.size, .string h.root, .int .i64 h.taken, .string h.troot]) := by rw [Hid, hw]; exact ⟨by first | omega | (simp [World.setCell]; done) | (simp [World.setCell]; omega), fun o => by rcases o with _ | _ | _ | _ | _ | o <;> go_simp, fun o => by go_simp⟩
    have hxh := HXh.out.2.1
    have hfh := HXh.out.2.2
    have hkh := HXh.out.1
    clear hw
    refine (HO.out _).mono ?_
    rintro e w2 ⟨rfl, hb⟩
    have hzw2 : w1.heap.size ≤ w2.heap.size := hb.size
    have hzzw2 : w.heap.size ≤ w2.heap.size := by omega
    replace HB : Hid (Below w.heap.size w w2) := below_then HB.out hb HB.out.size
    replace HXh : Hid (NewBox w2 (w.heap.size) [.int .i64 h.num, .int .i64 h.size, .string h.root, .int .i64 h.taken, .string h.troot]) := HXh.out.below hb
    clear hxh hfh hkh
    have hxh := HXh.out.2.1
    have hfh := HXh.out.2.2
    have hkh := HXh.out.1
    clear hb
    go_wp2
    refine bodyPost_ret (v := .tuple #[.string ⟨#[]⟩, .bool false]) (by simp [results, Try.results46, go_sem]) rfl ?_
    exact ⟨by rw [HM.out], HB.out⟩
  · have HM : Hid (headHashM width h = digM width 3 (headTextM width h)) := by rw [Hid, headHashM, hq]; rfl
    rw [ho hq] at HD
    rw [hq] at HO
    clear hq ho
    generalize headTextM width h = tx at *
    generalize digM width 3 tx = dg at *
    have HB : Hid (Below w.heap.size w w) := Below.refl _ _
    go_enter Try.func46, Try.ntmps46
    go_wp2_with fail
    refine calls_named (fun w1 hw => ?_)
    have hz1 : w.heap.size + 1 ≤ w1.heap.size := by rw [hw]; first | omega | (simp [World.setCell]; done) | (simp [World.setCell]; omega)
    have hzz1 : w.heap.size ≤ w1.heap.size := by omega
    replace HB : Hid (Below w.heap.size w w1) := by rw [Hid, hw]; exact (by ((repeat (first | ((with_reducible refine Below.alloc ?_ ?_ _); rotate_left 1; (focus (first | omega | (simp; done) | (simp; omega)))) | (with_reducible refine Below.drew ?_) | ((with_reducible refine Below.setCell ?_ ?_ _); rotate_left 1; (focus (first | omega | (simp; done) | (simp; omega)))))); exact HB.out))
    have HXh : Hid (NewBox w1 (w.heap.size) [.int .i64 h.num, .int .i64 h.size, .string h.root, .int .i64 h.taken, .string h.troot]) := by rw [Hid, hw]; exact ⟨by first | omega | (simp [World.setCell]; done) | (simp [World.setCell]; omega), fun o => by rcases o with _ | _ | _ | _ | _ | o <;> go_simp, fun o => by go_simp⟩
    have hxh := HXh.out.2.1
    have hfh := HXh.out.2.2
    have hkh := HXh.out.1
    clear hw
    refine (HO.out _).mono ?_
    rintro e w2 ⟨rfl, hb⟩
    have hzw2 : w1.heap.size ≤ w2.heap.size := hb.size
    have hzzw2 : w.heap.size ≤ w2.heap.size := by omega
    replace HB : Hid (Below w.heap.size w w2) := below_then HB.out hb HB.out.size
    replace HXh : Hid (NewBox w2 (w.heap.size) [.int .i64 h.num, .int .i64 h.size, .string h.root, .int .i64 h.taken, .string h.troot]) := HXh.out.below hb
    clear hxh hfh hkh
    have hxh := HXh.out.2.1
    have hfh := HXh.out.2.2
    have hkh := HXh.out.1
    clear hb
    go_wp2_with fail
    refine calls_named (fun w3 hw => ?_)
    have hz3 : w2.heap.size + 0 ≤ w3.heap.size := by rw [hw]; first | omega | (simp [World.setCell]; done) | (simp [World.setCell]; omega)
    have hzz3 : w.heap.size ≤ w3.heap.size := by omega
    replace HB : Hid (Below w.heap.size w w3) := by rw [Hid, hw]; exact (by ((repeat (first | ((with_reducible refine Below.alloc ?_ ?_ _); rotate_left 1; (focus (first | omega | (simp; done) | (simp; omega)))) | (with_reducible refine Below.drew ?_) | ((with_reducible refine Below.setCell ?_ ?_ _); rotate_left 1; (focus (first | omega | (simp; done) | (simp; omega)))))); exact HB.out))
    replace HXh : Hid (NewBox w3 (w.heap.size) [.int .i64 h.num, .int .i64 h.size, .string h.root, .int .i64 h.taken, .string h.troot]) := by rw [Hid, hw]; (repeat (first | (with_reducible refine NewBox.alloc ?_ _) | (with_reducible refine NewBox.drew ?_) | ((with_reducible refine NewBox.setCell ?_ ?_ _); rotate_left 1; (focus (first | omega | (simp; done) | (simp; omega)))))); exact HXh.out
    clear hxh hfh hkh
    have hxh := HXh.out.2.1
    have hfh := HXh.out.2.2
    have hkh := HXh.out.1
    clear hw
    refine (HD.out _).mono ?_
    rintro e w4 ⟨rfl, hb⟩
    have hzw4 : w3.heap.size ≤ w4.heap.size := hb.size
    have hzzw4 : w.heap.size ≤ w4.heap.size := by omega
    replace HB : Hid (Below w.heap.size w w4) := below_then HB.out hb HB.out.size
    replace HXh : Hid (NewBox w4 (w.heap.size) [.int .i64 h.num, .int .i64 h.size, .string h.root, .int .i64 h.taken, .string h.troot]) := HXh.out.below hb
    clear hxh hfh hkh
    have hxh := HXh.out.2.1
    have hfh := HXh.out.2.2
    have hkh := HXh.out.1
    clear hb
    go_wp2
    refine bodyPost_ret (v := .tuple #[.string dg, .bool true]) (by simp [results, Try.results46, go_sem]) rfl ?_
    exact ⟨by rw [HM.out], HB.out⟩
end Go.Proofs.Ytojjjhbiccgjkaa
