/- What proofs lead to (the reference's side). -/
import Derived.Test.YtojjjhbiccgjkaaSteps
import Derived.Test.YtojjjhbiccgjkaaRowB
import Derived.BigQuiet
namespace Go.Proofs.Ytojjjhbiccgjkaa
set_option linter.unusedVariables false
set_option linter.unusedSimpArgs false
open Go.RowKit

set_option maxRecDepth 100000 in
set_option maxHeartbeats 4000000 in
theorem l06In_c (width : Int) (leaf : ByteArray) (hw : inR width 1 32 = true) (hlf : (leaf.size : Int) = width) : ∀ (f n a k cp lo hi : Nat) (P : Option Addr) (pr : List ByteArray) (w : World),
    a < n → n ≤ 512 → n < f → pr.length = k → k = inSt f n a → k ≤ cp → areH width pr = true → Rd w lo hi P (strs pr) →
    Calls Try.prog 130 #[.int .i64 width, .int .i64 n, .int .i64 a, .string leaf, .slice P k cp] w fun e w' => ∃ A' c', e = .returned (.agg #[.string ByteArray.empty, .string (inW width leaf f n a pr).1, .slice A' k c']) ∧
      w'.ownsRow w.heap.size 9 1 (.slice A' k c') k (strs (inW width leaf f n a pr).2) ∧ Below w.heap.size w w'
  | 0, n, a, k, cp, lo, hi, P, pr, w, ha, h5, hf, hk, hkn, hkc, hpr, hP => by omega
  | f + 1, n, a, k, cp, lo, hi, P, pr, w, ha, h5, hf, hk, hkn, hkc, hpr, hP => by
    have IH := Lib.hid (l06In_c width leaf hw hlf f)
    rcases Nat.lt_or_ge 1 n with hn | hn
    · obtain ⟨k1, k2, k3⟩ := halfN_bd hn h5
      have HH := Lib.hid (fun W => specHalfOf_c n W hn h5)
      by_cases hlt : a < halfN n
      · skip
        have HW := Lib.hid (inW_lo (width := width) (leaf := leaf) (f := f) (pr := pr) hn hlt)
        have hk5 : k ≤ 512 := by rw [hkn]; exact Nat.le_trans (inSt_le h5) h5
        rw [inSt_lo hn hlt] at hkn
        obtain ⟨j, hj⟩ : ∃ j, j = inSt f (halfN n) a := ⟨_, rfl⟩
        rw [← hj] at hkn
        have hsz := inW_size hw hlf (f := f) (n := (halfN n)) (a := a) (pr := prI pr) (by omega) (by omega) (prI_are hpr) (by rw [prI_len (hk.trans hkn), hj])
        have hxs := prL_size hpr (by omega)
        have hxg := prL_get (hk.trans hkn)
        obtain ⟨b, off, x0, rfl, hb, hks, hcl⟩ := hP.str (k := j) (by omega)
        obtain rfl : prL pr = x0 := Option.some.inj (hxg.symm.trans hks)
        have HI := Lib.hid (fun W (h : Rd W 0 W.heap.size (some ⟨b, off, none⟩) (strs (prI pr))) => IH.out (halfN n) a j cp 0 W.heap.size (some ⟨b, off, none⟩) (prI pr) W (by omega) (by omega) (by omega) (prI_len (hk.trans hkn)) hj (by omega) (prI_are hpr) h)
        have hlen := hsz.2
        rw [← hj] at hlen
        have hszr := hsz.1
        have hw2 := inR_true.1 hw
        obtain ⟨hf, hhf⟩ : ∃ hf, hf = halfN n := ⟨_, rfl⟩
        rw [← hhf] at HW HH HI k1 k2 k3 hlt hszr hlen
        generalize (inW width leaf f hf a (prI pr)).1 = r at *
        generalize (inW width leaf f hf a (prI pr)).2 = t at *
        have HP : Hid (Rd w 0 w.heap.size (some ⟨b, off, none⟩) (strs (prI pr))) := Lib.hid (hP.takeS _).base
        have hbw : b < w.heap.size := by have := hP.base.str (k := j) (by omega); obtain ⟨b', off', x', e, h1, _, _⟩ := this; cases e; omega
        generalize prL pr = x at *
        generalize prI pr = pi at *
        have E1 : IntKind.i64.wrap ((k : Int) - 1) = j := by rw [IntKind.wrap_i64]; omega
        have E2 : (k : Int) - 1 = j := by omega
        have E3 : (j : Int) < k := by omega
        have E4 : (j : Int) ≤ cp := by omega
        have E5 : (k : Int) ≤ 512 := by omega
        have E6 : j ≤ 2000 := by omega
        have E7 : ((k : Int) == 0) = false := beq_eq_false_iff_ne.2 (by omega)
        have HKJ := Lib.hid hkn
        clear hhf hP hkn hk hj hsz hxg hks IH hlf
        obtain ⟨s, hs1⟩ : ∃ s, s = r ++ x := ⟨_, rfl⟩
        have c1 := fun W : World => run_string_add_sum (P := Try.prog) W r x (by omega)
        have z1 : s.size ≤ 64 := by rw [hs1, ByteArray.size_append]; omega
        rw [← hs1] at c1
        have HS1 := Lib.hid hs1
        clear hs1
        have HND : Hid (digM width 1 s = nodeT width r x) := Lib.hid (by rw [nodeT, ← HS1.out])
        have HTX : Hid (t ++ [s] = t ++ [r ++ x]) := Lib.hid (by rw [← HS1.out])
        have HDG := Lib.hid (fun W => specDigest_c width 1 s W (by unfold maxLen; omega))
        have hdo : digOk width 1 s = true := by rw [digOk, hw, Bool.true_and, Bool.and_eq_true]; exact ⟨by decide, decide_eq_true (by omega)⟩
        rw [hdo, HND.out] at HDG
        rw [← HTX.out] at HW
        have HSA : Hid (strs (t ++ [s]) = strs t ++ strs [s]) := Lib.hid (strs_app _ _)
        have HW2 := HW
        clear HND HTX HS1 hdo hszr hxs hw
        generalize nodeT width _ _ = nd at *
        generalize t ++ [s] = ts at *
        have HB : Hid (Below w.heap.size w w) := Below.refl _ _
        go_enter Try.func130, Try.ntmps130
        go_wp2_with fail
        refine calls_named (fun w1 hw => ?_)
        have hz1 : w.heap.size + 1 ≤ w1.heap.size := by rw [hw]; first | omega | (simp [World.setCell]; done) | (simp [World.setCell]; omega)
        have hzz1 : w.heap.size ≤ w1.heap.size := by omega
        replace HB : Hid (Below w.heap.size w w1) := by rw [Hid, hw]; exact (by ((repeat (first | ((with_reducible refine Below.alloc ?_ ?_ _); rotate_left 1; (focus (first | omega | (simp; done) | (simp; omega)))) | (with_reducible refine Below.drew ?_) | ((with_reducible refine Below.setCell ?_ ?_ _); rotate_left 1; (focus (first | omega | (simp; done) | (simp; omega)))))); exact HB.out))
        have HXq : Hid (NewBox w1 (w.heap.size) [.string ⟨#[]⟩, .string ⟨#[]⟩, .slice none 0 0]) := by rw [Hid, hw]; exact ⟨by first | omega | (simp [World.setCell]; done) | (simp [World.setCell]; omega), fun o => by rcases o with _ | _ | _ | o <;> go_simp, fun o => by go_simp⟩
        have hxq := HXq.out.2.1
        have hfq := HXq.out.2.2
        have hkq := HXq.out.1
        clear hw
        refine (HH.out _).mono ?_
        rintro e w2_ ⟨rfl, rfl⟩
        go_wp2_with fail
        refine calls_named (fun w3 hw => ?_)
        have hz3 : w1.heap.size + 1 ≤ w3.heap.size := by rw [hw]; first | omega | (simp [World.setCell]; done) | (simp [World.setCell]; omega)
        have hzz3 : w.heap.size ≤ w3.heap.size := by omega
        replace HB : Hid (Below w.heap.size w w3) := by rw [Hid, hw]; exact (by ((repeat (first | ((with_reducible refine Below.alloc ?_ ?_ _); rotate_left 1; (focus (first | omega | (simp; done) | (simp; omega)))) | (with_reducible refine Below.drew ?_) | ((with_reducible refine Below.setCell ?_ ?_ _); rotate_left 1; (focus (first | omega | (simp; done) | (simp; omega)))))); exact HB.out))
        replace HXq : Hid (NewBox w3 (w.heap.size) [.string ⟨#[]⟩, .string ⟨#[]⟩, .slice none 0 0]) := by rw [Hid, hw]; (repeat (first | (with_reducible refine NewBox.alloc ?_ _) | (with_reducible refine NewBox.drew ?_) | ((with_reducible refine NewBox.setCell ?_ ?_ _); rotate_left 1; (focus (first | omega | (simp; done) | (simp; omega)))))); exact HXq.out
        clear hxq hfq hkq
        have hxq := HXq.out.2.1
        have hfq := HXq.out.2.2
        have hkq := HXq.out.1
        have HXv : Hid (NewBox w3 (w1.heap.size) [.string ⟨#[]⟩, .string ⟨#[]⟩, .slice none 0 0]) := by rw [Hid, hw]; exact ⟨by first | omega | (simp [World.setCell]; done) | (simp [World.setCell]; omega), fun o => by rcases o with _ | _ | _ | o <;> go_simp, fun o => by go_simp⟩
        have hxv := HXv.out.2.1
        have hfv := HXv.out.2.2
        have hkv := HXv.out.1
        clear hw
        refine (HI.out _ (HP.out.below HB.out).base).mono ?_
        rintro e w4 ⟨A2, c2, rfl, hown, hb⟩
        have hzw4 : w3.heap.size ≤ w4.heap.size := hb.size
        have hzzw4 : w.heap.size ≤ w4.heap.size := by omega
        replace HB : Hid (Below w.heap.size w w4) := below_then HB.out hb HB.out.size
        replace HXq : Hid (NewBox w4 (w.heap.size) [.string ⟨#[]⟩, .string ⟨#[]⟩, .slice none 0 0]) := HXq.out.below hb
        clear hxq hfq hkq
        have hxq := HXq.out.2.1
        have hfq := HXq.out.2.2
        have hkq := HXq.out.1
        replace HXv : Hid (NewBox w4 (w1.heap.size) [.string ⟨#[]⟩, .string ⟨#[]⟩, .slice none 0 0]) := HXv.out.below hb
        clear hxv hfv hkv
        have hxv := HXv.out.2.1
        have hfv := HXv.out.2.2
        have hkv := HXv.out.1
        clear hb
        have hpv : w.heap.size + 2 ≤ w3.heap.size := by omega
        have HOT : Hid (RowB w4 (w3.heap.size) (w4.heap.size) ((.slice A2 j c2, j)) (strs t)) := RowB.of hown
        have HR0 : Hid (Below w.heap.size w w4) := HB
        clear hown
        go_wp2_with fail
        refine wp_named (fun w5 hw => ?_)
        have hz5 : w4.heap.size + 0 ≤ w5.heap.size := by rw [hw]; first | omega | (simp [World.setCell]; done) | (simp [World.setCell]; omega)
        have hzz5 : w.heap.size ≤ w5.heap.size := by omega
        replace HB : Hid (Below w.heap.size w w5) := by rw [Hid, hw]; exact (by ((repeat (first | ((with_reducible refine Below.alloc ?_ ?_ _); rotate_left 1; (focus (first | omega | (simp; done) | (simp; omega)))) | (with_reducible refine Below.drew ?_) | ((with_reducible refine Below.setCell ?_ ?_ _); rotate_left 1; (focus (first | omega | (simp; done) | (simp; omega)))))); exact HB.out))
        replace HOT : Hid (RowB w5 (w3.heap.size) (w4.heap.size) ((.slice A2 j c2, j)) (strs t)) := by rw [Hid, hw]; (repeat (first | (with_reducible refine RowB.alloc ?_ _) | (with_reducible refine RowB.drew ?_) | ((with_reducible refine RowB.setCell ?_ ?_ _); rotate_left 1; (focus (first | omega | (simp; done) | (simp; omega)))))); exact HOT.out
        replace HXq : Hid (NewBox w5 (w.heap.size) [.string ⟨#[]⟩, .string ⟨#[]⟩, .slice none 0 0]) := by rw [Hid, hw]; (repeat (first | (with_reducible refine NewBox.alloc ?_ _) | (with_reducible refine NewBox.drew ?_) | ((with_reducible refine NewBox.setCell ?_ ?_ _); rotate_left 1; (focus (first | omega | (simp; done) | (simp; omega)))))); exact HXq.out
        clear hxq hfq hkq
        have hxq := HXq.out.2.1
        have hfq := HXq.out.2.2
        have hkq := HXq.out.1
        replace HXv : Hid (NewBox w5 (w1.heap.size) [.string ⟨#[]⟩, .string r, .slice A2 j c2]) := by rw [Hid, hw]; apply NewBox.cast; (focus ((repeat (first | (with_reducible apply NewBox.alloc) | (with_reducible apply NewBox.drew) | (with_reducible apply NewBox.set1) | ((with_reducible apply NewBox.far); (focus (first | omega | (simp; done) | (simp; omega)))))); exact HXv.out)); rfl
        clear hxv hfv hkv
        have hxv := HXv.out.2.1
        have hfv := HXv.out.2.2
        have hkv := HXv.out.1
        clear hw
        have hcl2 : w5.cell? ⟨b, off + j, none⟩ = some (.string x) := (HB.out.cell (p := ⟨b, off + j, none⟩) hbw).trans hcl
        go_quiet (fail)
        generalize hwA : (w5).drewN _ = wA
        have hbA : Below (w5).heap.size w5 wA := by rw [← hwA]; exact below_drewN _ _
        clear hwA hcl2
        have hzwA : w5.heap.size ≤ wA.heap.size := hbA.size
        have hzzwA : w.heap.size ≤ wA.heap.size := by omega
        replace HB : Hid (Below w.heap.size w wA) := below_then HB.out hbA HB.out.size
        replace HOT : Hid (RowB wA (w3.heap.size) (w4.heap.size) ((.slice A2 j c2, j)) (strs t)) := HOT.out.below hbA
        replace HXq : Hid (NewBox wA (w.heap.size) [.string ⟨#[]⟩, .string ⟨#[]⟩, .slice none 0 0]) := HXq.out.below hbA
        clear hxq hfq hkq
        have hxq := HXq.out.2.1
        have hfq := HXq.out.2.2
        have hkq := HXq.out.1
        replace HXv : Hid (NewBox wA (w1.heap.size) [.string ⟨#[]⟩, .string r, .slice A2 j c2]) := HXv.out.below hbA
        clear hxv hfv hkv
        have hxv := HXv.out.2.1
        have hfv := HXv.out.2.2
        have hkv := HXv.out.1
        clear hbA
        go_wp2_with (at_builtin; refine app1Str rfl _ _ rfl (w3.heap.size) _ _ _ rfl (HOT.out.1.alloc _) (wA).heap.size s rfl (NewBox.new wA _ _) (by omega) (by first | omega | (simp; done) | (simp; omega)) ?_)
        intro v7 wB hown7 hg7
        obtain ⟨A7, c7, rfl, _, _, _⟩ := ownsRow_slice hown7
        rw [← HSA.out] at hown7
        obtain ⟨hrow7, hon7⟩ := rowB_app HOT.out.1 _ hown7 hg7
        have HROW7 := Lib.hid hrow7
        clear hown7 hg7 hrow7 HOT
        have hzwB : wA.heap.size ≤ wB.heap.size := hon7.size
        have hzzwB : w.heap.size ≤ wB.heap.size := by omega
        replace HB : Hid (Below w.heap.size w wB) := below_only HB.out hon7 (by omega) HB.out.size
        replace HXq : Hid (NewBox wB (w.heap.size) [.string ⟨#[]⟩, .string ⟨#[]⟩, .slice none 0 0]) := HXq.out.only hon7 (by first | omega | (simp; omega))
        clear hxq hfq hkq
        have hxq := HXq.out.2.1
        have hfq := HXq.out.2.2
        have hkq := HXq.out.1
        replace HXv : Hid (NewBox wB (w1.heap.size) [.string ⟨#[]⟩, .string r, .slice A2 j c2]) := HXv.out.only hon7 (by first | omega | (simp; omega))
        clear hxv hfv hkv
        have hxv := HXv.out.2.1
        have hfv := HXv.out.2.2
        have hkv := HXv.out.1
        clear hon7
        have HOT : Hid (RowB wB (w3.heap.size) (wB.heap.size) ((.slice A7 (j + 1) c7, j + 1)) (strs ts)) := HROW7.out
        clear HROW7
        go_wp2_with fail
        refine calls_named (fun w6 hw => ?_)
        have hz6 : wB.heap.size + 0 ≤ w6.heap.size := by rw [hw]; first | omega | (simp [World.setCell]; done) | (simp [World.setCell]; omega)
        have hzz6 : w.heap.size ≤ w6.heap.size := by omega
        replace HB : Hid (Below w.heap.size w w6) := by rw [Hid, hw]; exact (by ((repeat (first | ((with_reducible refine Below.alloc ?_ ?_ _); rotate_left 1; (focus (first | omega | (simp; done) | (simp; omega)))) | (with_reducible refine Below.drew ?_) | ((with_reducible refine Below.setCell ?_ ?_ _); rotate_left 1; (focus (first | omega | (simp; done) | (simp; omega)))))); exact HB.out))
        replace HOT : Hid (RowB w6 (w3.heap.size) (wB.heap.size) ((.slice A7 (j + 1) c7, j + 1)) (strs ts)) := by rw [Hid, hw]; (repeat (first | (with_reducible refine RowB.alloc ?_ _) | (with_reducible refine RowB.drew ?_) | ((with_reducible refine RowB.setCell ?_ ?_ _); rotate_left 1; (focus (first | omega | (simp; done) | (simp; omega)))))); exact HOT.out
        replace HXq : Hid (NewBox w6 (w.heap.size) [.string ⟨#[]⟩, .string ⟨#[]⟩, .slice none 0 0]) := by rw [Hid, hw]; (repeat (first | (with_reducible refine NewBox.alloc ?_ _) | (with_reducible refine NewBox.drew ?_) | ((with_reducible refine NewBox.setCell ?_ ?_ _); rotate_left 1; (focus (first | omega | (simp; done) | (simp; omega)))))); exact HXq.out
        clear hxq hfq hkq
        have hxq := HXq.out.2.1
        have hfq := HXq.out.2.2
        have hkq := HXq.out.1
        replace HXv : Hid (NewBox w6 (w1.heap.size) [.string ⟨#[]⟩, .string r, .slice A7 (j + 1) c7]) := by rw [Hid, hw]; apply NewBox.cast; (focus ((repeat (first | (with_reducible apply NewBox.alloc) | (with_reducible apply NewBox.drew) | (with_reducible apply NewBox.set1) | ((with_reducible apply NewBox.far); (focus (first | omega | (simp; done) | (simp; omega)))))); exact HXv.out)); rfl
        clear hxv hfv hkv
        have hxv := HXv.out.2.1
        have hfv := HXv.out.2.2
        have hkv := HXv.out.1
        clear hw
        refine (HDG.out _).mono ?_
        rintro e w7 ⟨rfl, hb⟩
        have hzw7 : w6.heap.size ≤ w7.heap.size := hb.size
        have hzzw7 : w.heap.size ≤ w7.heap.size := by omega
        replace HB : Hid (Below w.heap.size w w7) := below_then HB.out hb HB.out.size
        replace HOT : Hid (RowB w7 (w3.heap.size) (wB.heap.size) ((.slice A7 (j + 1) c7, j + 1)) (strs ts)) := HOT.out.below hb
        replace HXq : Hid (NewBox w7 (w.heap.size) [.string ⟨#[]⟩, .string ⟨#[]⟩, .slice none 0 0]) := HXq.out.below hb
        clear hxq hfq hkq
        have hxq := HXq.out.2.1
        have hfq := HXq.out.2.2
        have hkq := HXq.out.1
        replace HXv : Hid (NewBox w7 (w1.heap.size) [.string ⟨#[]⟩, .string r, .slice A7 (j + 1) c7]) := HXv.out.below hb
        clear hxv hfv hkv
        have hxv := HXv.out.2.1
        have hfv := HXv.out.2.2
        have hkv := HXv.out.1
        clear hb
        go_wp2
        refine bodyPost_named (fun w8 hw => ?_)
        have hz8 : w7.heap.size + 0 ≤ w8.heap.size := by rw [hw]; first | omega | (simp [World.setCell]; done) | (simp [World.setCell]; omega)
        have hzz8 : w.heap.size ≤ w8.heap.size := by omega
        replace HB : Hid (Below w.heap.size w w8) := by rw [Hid, hw]; exact (by ((repeat (first | ((with_reducible refine Below.alloc ?_ ?_ _); rotate_left 1; (focus (first | omega | (simp; done) | (simp; omega)))) | (with_reducible refine Below.drew ?_) | ((with_reducible refine Below.setCell ?_ ?_ _); rotate_left 1; (focus (first | omega | (simp; done) | (simp; omega)))))); exact HB.out))
        replace HOT : Hid (RowB w8 (w3.heap.size) (wB.heap.size) ((.slice A7 (j + 1) c7, j + 1)) (strs ts)) := by rw [Hid, hw]; (repeat (first | (with_reducible refine RowB.alloc ?_ _) | (with_reducible refine RowB.drew ?_) | ((with_reducible refine RowB.setCell ?_ ?_ _); rotate_left 1; (focus (first | omega | (simp; done) | (simp; omega)))))); exact HOT.out
        replace HXq : Hid (NewBox w8 (w.heap.size) [.string ⟨#[]⟩, .string nd, .slice A7 (j + 1) c7]) := by rw [Hid, hw]; apply NewBox.cast; (focus ((repeat (first | (with_reducible apply NewBox.alloc) | (with_reducible apply NewBox.drew) | (with_reducible apply NewBox.set1) | ((with_reducible apply NewBox.far); (focus (first | omega | (simp; done) | (simp; omega)))))); exact HXq.out)); rfl
        clear hxq hfq hkq
        have hxq := HXq.out.2.1
        have hfq := HXq.out.2.2
        have hkq := HXq.out.1
        replace HXv : Hid (NewBox w8 (w1.heap.size) [.string ⟨#[]⟩, .string nd, .slice A7 (j + 1) c7]) := by rw [Hid, hw]; apply NewBox.cast; (focus ((repeat (first | (with_reducible apply NewBox.alloc) | (with_reducible apply NewBox.drew) | (with_reducible apply NewBox.set1) | ((with_reducible apply NewBox.far); (focus (first | omega | (simp; done) | (simp; omega)))))); exact HXv.out)); rfl
        clear hxv hfv hkv
        have hxv := HXv.out.2.1
        have hfv := HXv.out.2.2
        have hkv := HXv.out.1
        clear hw
        refine bodyPost_ret (v := .agg #[.string ⟨#[]⟩, .string nd, .slice A7 (j + 1) c7]) (by simp [results, Try.results130, go_sem, hxq]) rfl ?_
        have hkj := HKJ.out
        subst hkj
        refine ⟨A7, c7, by rw [HW.out]; rfl, ?_, HB.out⟩
        rw [HW.out]
        exact row_mono HOT.out.1 (by omega)
      · skip
        have HW := Lib.hid (inW_hi (width := width) (leaf := leaf) (f := f) (pr := pr) hn hlt)
        have hk5 : k ≤ 512 := by rw [hkn]; exact Nat.le_trans (inSt_le h5) h5
        rw [inSt_hi hn hlt] at hkn
        obtain ⟨j, hj⟩ : ∃ j, j = inSt f (n - halfN n) (a - halfN n) := ⟨_, rfl⟩
        rw [← hj] at hkn
        have hsz := inW_size hw hlf (f := f) (n := (n - halfN n)) (a := (a - halfN n)) (pr := prI pr) (by omega) (by omega) (prI_are hpr) (by rw [prI_len (hk.trans hkn), hj])
        have hxs := prL_size hpr (by omega)
        have hxg := prL_get (hk.trans hkn)
        obtain ⟨b, off, x0, rfl, hb, hks, hcl⟩ := hP.str (k := j) (by omega)
        obtain rfl : prL pr = x0 := Option.some.inj (hxg.symm.trans hks)
        have HI := Lib.hid (fun W (h : Rd W 0 W.heap.size (some ⟨b, off, none⟩) (strs (prI pr))) => IH.out (n - halfN n) (a - halfN n) j cp 0 W.heap.size (some ⟨b, off, none⟩) (prI pr) W (by omega) (by omega) (by omega) (prI_len (hk.trans hkn)) hj (by omega) (prI_are hpr) h)
        have hlen := hsz.2
        rw [← hj] at hlen
        have hszr := hsz.1
        have hw2 := inR_true.1 hw
        obtain ⟨hf, hhf⟩ : ∃ hf, hf = halfN n := ⟨_, rfl⟩
        rw [← hhf] at HW HH HI k1 k2 k3 hlt hszr hlen
        obtain ⟨n2, hn2⟩ : ∃ n2, n2 = n - hf := ⟨_, rfl⟩
        obtain ⟨a2, ha2⟩ : ∃ a2, a2 = a - hf := ⟨_, rfl⟩
        have F1 : IntKind.i64.wrap ((n : Int) - hf) = n2 := by rw [IntKind.wrap_i64]; omega
        have F2 : IntKind.i64.wrap ((a : Int) - hf) = a2 := by rw [IntKind.wrap_i64]; omega
        have F3 : (n : Int) - hf = n2 := by omega
        have F4 : (a : Int) - hf = a2 := by omega
        rw [← hn2, ← ha2] at HW HI hszr hlen
        clear hn2 ha2
        generalize (inW width leaf f n2 a2 (prI pr)).1 = r at *
        generalize (inW width leaf f n2 a2 (prI pr)).2 = t at *
        have HP : Hid (Rd w 0 w.heap.size (some ⟨b, off, none⟩) (strs (prI pr))) := Lib.hid (hP.takeS _).base
        have hbw : b < w.heap.size := by have := hP.base.str (k := j) (by omega); obtain ⟨b', off', x', e, h1, _, _⟩ := this; cases e; omega
        generalize prL pr = x at *
        generalize prI pr = pi at *
        have E1 : IntKind.i64.wrap ((k : Int) - 1) = j := by rw [IntKind.wrap_i64]; omega
        have E2 : (k : Int) - 1 = j := by omega
        have E3 : (j : Int) < k := by omega
        have E4 : (j : Int) ≤ cp := by omega
        have E5 : (k : Int) ≤ 512 := by omega
        have E6 : j ≤ 2000 := by omega
        have E7 : ((k : Int) == 0) = false := beq_eq_false_iff_ne.2 (by omega)
        have HKJ := Lib.hid hkn
        clear hhf hP hkn hk hj hsz hxg hks IH hlf
        obtain ⟨s, hs1⟩ : ∃ s, s = x ++ r := ⟨_, rfl⟩
        have c1 := fun W : World => run_string_add_sum (P := Try.prog) W x r (by omega)
        have z1 : s.size ≤ 64 := by rw [hs1, ByteArray.size_append]; omega
        rw [← hs1] at c1
        have HS1 := Lib.hid hs1
        clear hs1
        have HND : Hid (digM width 1 s = nodeT width x r) := Lib.hid (by rw [nodeT, ← HS1.out])
        have HTX : Hid (t ++ [s] = t ++ [x ++ r]) := Lib.hid (by rw [← HS1.out])
        have HDG := Lib.hid (fun W => specDigest_c width 1 s W (by unfold maxLen; omega))
        have hdo : digOk width 1 s = true := by rw [digOk, hw, Bool.true_and, Bool.and_eq_true]; exact ⟨by decide, decide_eq_true (by omega)⟩
        rw [hdo, HND.out] at HDG
        rw [← HTX.out] at HW
        have HSA : Hid (strs (t ++ [s]) = strs t ++ strs [s]) := Lib.hid (strs_app _ _)
        have HW2 := HW
        clear HND HTX HS1 hdo hszr hxs hw
        generalize nodeT width _ _ = nd at *
        generalize t ++ [s] = ts at *
        have HB : Hid (Below w.heap.size w w) := Below.refl _ _
        go_enter Try.func130, Try.ntmps130
        go_wp2_with fail
        refine calls_named (fun w1 hw => ?_)
        have hz1 : w.heap.size + 1 ≤ w1.heap.size := by rw [hw]; first | omega | (simp [World.setCell]; done) | (simp [World.setCell]; omega)
        have hzz1 : w.heap.size ≤ w1.heap.size := by omega
        replace HB : Hid (Below w.heap.size w w1) := by rw [Hid, hw]; exact (by ((repeat (first | ((with_reducible refine Below.alloc ?_ ?_ _); rotate_left 1; (focus (first | omega | (simp; done) | (simp; omega)))) | (with_reducible refine Below.drew ?_) | ((with_reducible refine Below.setCell ?_ ?_ _); rotate_left 1; (focus (first | omega | (simp; done) | (simp; omega)))))); exact HB.out))
        have HXq : Hid (NewBox w1 (w.heap.size) [.string ⟨#[]⟩, .string ⟨#[]⟩, .slice none 0 0]) := by rw [Hid, hw]; exact ⟨by first | omega | (simp [World.setCell]; done) | (simp [World.setCell]; omega), fun o => by rcases o with _ | _ | _ | o <;> go_simp, fun o => by go_simp⟩
        have hxq := HXq.out.2.1
        have hfq := HXq.out.2.2
        have hkq := HXq.out.1
        clear hw
        refine (HH.out _).mono ?_
        rintro e w2_ ⟨rfl, rfl⟩
        go_wp2_with fail
        refine calls_named (fun w3 hw => ?_)
        have hz3 : w1.heap.size + 1 ≤ w3.heap.size := by rw [hw]; first | omega | (simp [World.setCell]; done) | (simp [World.setCell]; omega)
        have hzz3 : w.heap.size ≤ w3.heap.size := by omega
        replace HB : Hid (Below w.heap.size w w3) := by rw [Hid, hw]; exact (by ((repeat (first | ((with_reducible refine Below.alloc ?_ ?_ _); rotate_left 1; (focus (first | omega | (simp; done) | (simp; omega)))) | (with_reducible refine Below.drew ?_) | ((with_reducible refine Below.setCell ?_ ?_ _); rotate_left 1; (focus (first | omega | (simp; done) | (simp; omega)))))); exact HB.out))
        replace HXq : Hid (NewBox w3 (w.heap.size) [.string ⟨#[]⟩, .string ⟨#[]⟩, .slice none 0 0]) := by rw [Hid, hw]; (repeat (first | (with_reducible refine NewBox.alloc ?_ _) | (with_reducible refine NewBox.drew ?_) | ((with_reducible refine NewBox.setCell ?_ ?_ _); rotate_left 1; (focus (first | omega | (simp; done) | (simp; omega)))))); exact HXq.out
        clear hxq hfq hkq
        have hxq := HXq.out.2.1
        have hfq := HXq.out.2.2
        have hkq := HXq.out.1
        have HXv : Hid (NewBox w3 (w1.heap.size) [.string ⟨#[]⟩, .string ⟨#[]⟩, .slice none 0 0]) := by rw [Hid, hw]; exact ⟨by first | omega | (simp [World.setCell]; done) | (simp [World.setCell]; omega), fun o => by rcases o with _ | _ | _ | o <;> go_simp, fun o => by go_simp⟩
        have hxv := HXv.out.2.1
        have hfv := HXv.out.2.2
        have hkv := HXv.out.1
        clear hw
        refine (HI.out _ (HP.out.below HB.out).base).mono ?_
        rintro e w4 ⟨A2, c2, rfl, hown, hb⟩
        have hzw4 : w3.heap.size ≤ w4.heap.size := hb.size
        have hzzw4 : w.heap.size ≤ w4.heap.size := by omega
        replace HB : Hid (Below w.heap.size w w4) := below_then HB.out hb HB.out.size
        replace HXq : Hid (NewBox w4 (w.heap.size) [.string ⟨#[]⟩, .string ⟨#[]⟩, .slice none 0 0]) := HXq.out.below hb
        clear hxq hfq hkq
        have hxq := HXq.out.2.1
        have hfq := HXq.out.2.2
        have hkq := HXq.out.1
        replace HXv : Hid (NewBox w4 (w1.heap.size) [.string ⟨#[]⟩, .string ⟨#[]⟩, .slice none 0 0]) := HXv.out.below hb
        clear hxv hfv hkv
        have hxv := HXv.out.2.1
        have hfv := HXv.out.2.2
        have hkv := HXv.out.1
        clear hb
        have hpv : w.heap.size + 2 ≤ w3.heap.size := by omega
        have HOT : Hid (RowB w4 (w3.heap.size) (w4.heap.size) ((.slice A2 j c2, j)) (strs t)) := RowB.of hown
        have HR0 : Hid (Below w.heap.size w w4) := HB
        clear hown
        go_wp2_with fail
        refine wp_named (fun w5 hw => ?_)
        have hz5 : w4.heap.size + 0 ≤ w5.heap.size := by rw [hw]; first | omega | (simp [World.setCell]; done) | (simp [World.setCell]; omega)
        have hzz5 : w.heap.size ≤ w5.heap.size := by omega
        replace HB : Hid (Below w.heap.size w w5) := by rw [Hid, hw]; exact (by ((repeat (first | ((with_reducible refine Below.alloc ?_ ?_ _); rotate_left 1; (focus (first | omega | (simp; done) | (simp; omega)))) | (with_reducible refine Below.drew ?_) | ((with_reducible refine Below.setCell ?_ ?_ _); rotate_left 1; (focus (first | omega | (simp; done) | (simp; omega)))))); exact HB.out))
        replace HOT : Hid (RowB w5 (w3.heap.size) (w4.heap.size) ((.slice A2 j c2, j)) (strs t)) := by rw [Hid, hw]; (repeat (first | (with_reducible refine RowB.alloc ?_ _) | (with_reducible refine RowB.drew ?_) | ((with_reducible refine RowB.setCell ?_ ?_ _); rotate_left 1; (focus (first | omega | (simp; done) | (simp; omega)))))); exact HOT.out
        replace HXq : Hid (NewBox w5 (w.heap.size) [.string ⟨#[]⟩, .string ⟨#[]⟩, .slice none 0 0]) := by rw [Hid, hw]; (repeat (first | (with_reducible refine NewBox.alloc ?_ _) | (with_reducible refine NewBox.drew ?_) | ((with_reducible refine NewBox.setCell ?_ ?_ _); rotate_left 1; (focus (first | omega | (simp; done) | (simp; omega)))))); exact HXq.out
        clear hxq hfq hkq
        have hxq := HXq.out.2.1
        have hfq := HXq.out.2.2
        have hkq := HXq.out.1
        replace HXv : Hid (NewBox w5 (w1.heap.size) [.string ⟨#[]⟩, .string r, .slice A2 j c2]) := by rw [Hid, hw]; apply NewBox.cast; (focus ((repeat (first | (with_reducible apply NewBox.alloc) | (with_reducible apply NewBox.drew) | (with_reducible apply NewBox.set1) | ((with_reducible apply NewBox.far); (focus (first | omega | (simp; done) | (simp; omega)))))); exact HXv.out)); rfl
        clear hxv hfv hkv
        have hxv := HXv.out.2.1
        have hfv := HXv.out.2.2
        have hkv := HXv.out.1
        clear hw
        have hcl2 : w5.cell? ⟨b, off + j, none⟩ = some (.string x) := (HB.out.cell (p := ⟨b, off + j, none⟩) hbw).trans hcl
        go_quiet (fail)
        generalize hwA : (w5).drewN _ = wA
        have hbA : Below (w5).heap.size w5 wA := by rw [← hwA]; exact below_drewN _ _
        clear hwA hcl2
        have hzwA : w5.heap.size ≤ wA.heap.size := hbA.size
        have hzzwA : w.heap.size ≤ wA.heap.size := by omega
        replace HB : Hid (Below w.heap.size w wA) := below_then HB.out hbA HB.out.size
        replace HOT : Hid (RowB wA (w3.heap.size) (w4.heap.size) ((.slice A2 j c2, j)) (strs t)) := HOT.out.below hbA
        replace HXq : Hid (NewBox wA (w.heap.size) [.string ⟨#[]⟩, .string ⟨#[]⟩, .slice none 0 0]) := HXq.out.below hbA
        clear hxq hfq hkq
        have hxq := HXq.out.2.1
        have hfq := HXq.out.2.2
        have hkq := HXq.out.1
        replace HXv : Hid (NewBox wA (w1.heap.size) [.string ⟨#[]⟩, .string r, .slice A2 j c2]) := HXv.out.below hbA
        clear hxv hfv hkv
        have hxv := HXv.out.2.1
        have hfv := HXv.out.2.2
        have hkv := HXv.out.1
        clear hbA
        go_wp2_with (at_builtin; refine app1Str rfl _ _ rfl (w3.heap.size) _ _ _ rfl (HOT.out.1.alloc _) (wA).heap.size s rfl (NewBox.new wA _ _) (by omega) (by first | omega | (simp; done) | (simp; omega)) ?_)
        intro v7 wB hown7 hg7
        obtain ⟨A7, c7, rfl, _, _, _⟩ := ownsRow_slice hown7
        rw [← HSA.out] at hown7
        obtain ⟨hrow7, hon7⟩ := rowB_app HOT.out.1 _ hown7 hg7
        have HROW7 := Lib.hid hrow7
        clear hown7 hg7 hrow7 HOT
        have hzwB : wA.heap.size ≤ wB.heap.size := hon7.size
        have hzzwB : w.heap.size ≤ wB.heap.size := by omega
        replace HB : Hid (Below w.heap.size w wB) := below_only HB.out hon7 (by omega) HB.out.size
        replace HXq : Hid (NewBox wB (w.heap.size) [.string ⟨#[]⟩, .string ⟨#[]⟩, .slice none 0 0]) := HXq.out.only hon7 (by first | omega | (simp; omega))
        clear hxq hfq hkq
        have hxq := HXq.out.2.1
        have hfq := HXq.out.2.2
        have hkq := HXq.out.1
        replace HXv : Hid (NewBox wB (w1.heap.size) [.string ⟨#[]⟩, .string r, .slice A2 j c2]) := HXv.out.only hon7 (by first | omega | (simp; omega))
        clear hxv hfv hkv
        have hxv := HXv.out.2.1
        have hfv := HXv.out.2.2
        have hkv := HXv.out.1
        clear hon7
        have HOT : Hid (RowB wB (w3.heap.size) (wB.heap.size) ((.slice A7 (j + 1) c7, j + 1)) (strs ts)) := HROW7.out
        clear HROW7
        go_wp2_with fail
        refine calls_named (fun w6 hw => ?_)
        have hz6 : wB.heap.size + 0 ≤ w6.heap.size := by rw [hw]; first | omega | (simp [World.setCell]; done) | (simp [World.setCell]; omega)
        have hzz6 : w.heap.size ≤ w6.heap.size := by omega
        replace HB : Hid (Below w.heap.size w w6) := by rw [Hid, hw]; exact (by ((repeat (first | ((with_reducible refine Below.alloc ?_ ?_ _); rotate_left 1; (focus (first | omega | (simp; done) | (simp; omega)))) | (with_reducible refine Below.drew ?_) | ((with_reducible refine Below.setCell ?_ ?_ _); rotate_left 1; (focus (first | omega | (simp; done) | (simp; omega)))))); exact HB.out))
        replace HOT : Hid (RowB w6 (w3.heap.size) (wB.heap.size) ((.slice A7 (j + 1) c7, j + 1)) (strs ts)) := by rw [Hid, hw]; (repeat (first | (with_reducible refine RowB.alloc ?_ _) | (with_reducible refine RowB.drew ?_) | ((with_reducible refine RowB.setCell ?_ ?_ _); rotate_left 1; (focus (first | omega | (simp; done) | (simp; omega)))))); exact HOT.out
        replace HXq : Hid (NewBox w6 (w.heap.size) [.string ⟨#[]⟩, .string ⟨#[]⟩, .slice none 0 0]) := by rw [Hid, hw]; (repeat (first | (with_reducible refine NewBox.alloc ?_ _) | (with_reducible refine NewBox.drew ?_) | ((with_reducible refine NewBox.setCell ?_ ?_ _); rotate_left 1; (focus (first | omega | (simp; done) | (simp; omega)))))); exact HXq.out
        clear hxq hfq hkq
        have hxq := HXq.out.2.1
        have hfq := HXq.out.2.2
        have hkq := HXq.out.1
        replace HXv : Hid (NewBox w6 (w1.heap.size) [.string ⟨#[]⟩, .string r, .slice A7 (j + 1) c7]) := by rw [Hid, hw]; apply NewBox.cast; (focus ((repeat (first | (with_reducible apply NewBox.alloc) | (with_reducible apply NewBox.drew) | (with_reducible apply NewBox.set1) | ((with_reducible apply NewBox.far); (focus (first | omega | (simp; done) | (simp; omega)))))); exact HXv.out)); rfl
        clear hxv hfv hkv
        have hxv := HXv.out.2.1
        have hfv := HXv.out.2.2
        have hkv := HXv.out.1
        clear hw
        refine (HDG.out _).mono ?_
        rintro e w7 ⟨rfl, hb⟩
        have hzw7 : w6.heap.size ≤ w7.heap.size := hb.size
        have hzzw7 : w.heap.size ≤ w7.heap.size := by omega
        replace HB : Hid (Below w.heap.size w w7) := below_then HB.out hb HB.out.size
        replace HOT : Hid (RowB w7 (w3.heap.size) (wB.heap.size) ((.slice A7 (j + 1) c7, j + 1)) (strs ts)) := HOT.out.below hb
        replace HXq : Hid (NewBox w7 (w.heap.size) [.string ⟨#[]⟩, .string ⟨#[]⟩, .slice none 0 0]) := HXq.out.below hb
        clear hxq hfq hkq
        have hxq := HXq.out.2.1
        have hfq := HXq.out.2.2
        have hkq := HXq.out.1
        replace HXv : Hid (NewBox w7 (w1.heap.size) [.string ⟨#[]⟩, .string r, .slice A7 (j + 1) c7]) := HXv.out.below hb
        clear hxv hfv hkv
        have hxv := HXv.out.2.1
        have hfv := HXv.out.2.2
        have hkv := HXv.out.1
        clear hb
        go_wp2
        refine bodyPost_named (fun w8 hw => ?_)
        have hz8 : w7.heap.size + 0 ≤ w8.heap.size := by rw [hw]; first | omega | (simp [World.setCell]; done) | (simp [World.setCell]; omega)
        have hzz8 : w.heap.size ≤ w8.heap.size := by omega
        replace HB : Hid (Below w.heap.size w w8) := by rw [Hid, hw]; exact (by ((repeat (first | ((with_reducible refine Below.alloc ?_ ?_ _); rotate_left 1; (focus (first | omega | (simp; done) | (simp; omega)))) | (with_reducible refine Below.drew ?_) | ((with_reducible refine Below.setCell ?_ ?_ _); rotate_left 1; (focus (first | omega | (simp; done) | (simp; omega)))))); exact HB.out))
        replace HOT : Hid (RowB w8 (w3.heap.size) (wB.heap.size) ((.slice A7 (j + 1) c7, j + 1)) (strs ts)) := by rw [Hid, hw]; (repeat (first | (with_reducible refine RowB.alloc ?_ _) | (with_reducible refine RowB.drew ?_) | ((with_reducible refine RowB.setCell ?_ ?_ _); rotate_left 1; (focus (first | omega | (simp; done) | (simp; omega)))))); exact HOT.out
        replace HXq : Hid (NewBox w8 (w.heap.size) [.string ⟨#[]⟩, .string nd, .slice A7 (j + 1) c7]) := by rw [Hid, hw]; apply NewBox.cast; (focus ((repeat (first | (with_reducible apply NewBox.alloc) | (with_reducible apply NewBox.drew) | (with_reducible apply NewBox.set1) | ((with_reducible apply NewBox.far); (focus (first | omega | (simp; done) | (simp; omega)))))); exact HXq.out)); rfl
        clear hxq hfq hkq
        have hxq := HXq.out.2.1
        have hfq := HXq.out.2.2
        have hkq := HXq.out.1
        replace HXv : Hid (NewBox w8 (w1.heap.size) [.string ⟨#[]⟩, .string nd, .slice A7 (j + 1) c7]) := by rw [Hid, hw]; apply NewBox.cast; (focus ((repeat (first | (with_reducible apply NewBox.alloc) | (with_reducible apply NewBox.drew) | (with_reducible apply NewBox.set1) | ((with_reducible apply NewBox.far); (focus (first | omega | (simp; done) | (simp; omega)))))); exact HXv.out)); rfl
        clear hxv hfv hkv
        have hxv := HXv.out.2.1
        have hfv := HXv.out.2.2
        have hkv := HXv.out.1
        clear hw
        refine bodyPost_ret (v := .agg #[.string ⟨#[]⟩, .string nd, .slice A7 (j + 1) c7]) (by simp [results, Try.results130, go_sem, hxq]) rfl ?_
        have hkj := HKJ.out
        subst hkj
        refine ⟨A7, c7, by rw [HW.out]; rfl, ?_, HB.out⟩
        rw [HW.out]
        exact row_mono HOT.out.1 (by omega)
    · have HW := Lib.hid (inW_end (width := width) (leaf := leaf) (f := f) (a := a) (pr := pr) hn)
      rw [inSt_end hn] at hkn
      obtain rfl : n = 1 := by omega
      subst hkn
      clear hP hk IH hw hlf
      have HB : Hid (Below w.heap.size w w) := Below.refl _ _
      go_enter Try.func130, Try.ntmps130
      go_wp2
      refine bodyPost_named (fun w1 hw => ?_)
      have hz1 : w.heap.size + 1 ≤ w1.heap.size := by rw [hw]; first | omega | (simp [World.setCell]; done) | (simp [World.setCell]; omega)
      have hzz1 : w.heap.size ≤ w1.heap.size := by omega
      replace HB : Hid (Below w.heap.size w w1) := by rw [Hid, hw]; exact (by ((repeat (first | ((with_reducible refine Below.alloc ?_ ?_ _); rotate_left 1; (focus (first | omega | (simp; done) | (simp; omega)))) | (with_reducible refine Below.drew ?_) | ((with_reducible refine Below.setCell ?_ ?_ _); rotate_left 1; (focus (first | omega | (simp; done) | (simp; omega)))))); exact HB.out))
      have HXq : Hid (NewBox w1 (w.heap.size) [.string ⟨#[]⟩, .string leaf, .slice none 0 0]) := by rw [Hid, hw]; exact ⟨by first | omega | (simp [World.setCell]; done) | (simp [World.setCell]; omega), fun o => by rcases o with _ | _ | _ | o <;> go_simp, fun o => by go_simp⟩
      have hxq := HXq.out.2.1
      have hfq := HXq.out.2.2
      have hkq := HXq.out.1
      clear hw
      refine bodyPost_ret (v := .agg #[.string ⟨#[]⟩, .string leaf, .slice none 0 0]) (by simp [results, Try.results130, go_sem, hxq]) rfl ?_
      exact ⟨none, 0, by rw [HW.out]; rfl, by rw [HW.out]; exact World.ownsRow_nil _ _ _ _, HB.out⟩
end Go.Proofs.Ytojjjhbiccgjkaa
