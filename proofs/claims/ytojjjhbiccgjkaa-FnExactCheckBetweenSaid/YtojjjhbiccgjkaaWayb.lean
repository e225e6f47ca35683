/- Both roots that proofs lead to (the reference's side). -/
import Derived.Test.YtojjjhbiccgjkaaWays
import Derived.StillTailTactics
namespace Go.Proofs.Ytojjjhbiccgjkaa
set_option linter.unusedVariables false
set_option linter.unusedSimpArgs false
open Go.RowKit

set_option maxRecDepth 100000 in
set_option maxHeartbeats 4000000 in
theorem l06Between_c (width : Int) (root : ByteArray) (hw : inR width 1 32 = true) (hlf : (root.size : Int) = width) : ∀ (f s n k cp lo hi : Nat) (P : Option Addr) (pr : List ByteArray) (wh : Bool) (w : World),
    1 ≤ s → s ≤ n → n ≤ 512 → n < f → pr.length = k → k = beSt f s n wh → k ≤ cp → areH width pr = true → Rd w lo hi P (strs pr) →
    Calls Try.prog 127 #[.int .i64 width, .int .i64 s, .string root, .int .i64 n, .slice P k cp, .bool wh] w fun e w' => ∃ A' c', e = .returned (.agg #[.string (beW width root f s n pr wh).s, .string (beW width root f s n pr wh).b, .slice A' (beW width root f s n pr wh).t.length c']) ∧
      w'.ownsRow w.heap.size 9 1 (.slice A' (beW width root f s n pr wh).t.length c') (beW width root f s n pr wh).t.length (strs (beW width root f s n pr wh).t) ∧ Below w.heap.size w w'
  | 0, s, n, k, cp, lo, hi, P, pr, wh, w, h1, hsn, h5, hf, hk, hkn, hkc, hpr, hP => by omega
  | f + 1, s, n, k, cp, lo, hi, P, pr, wh, w, h1, hsn, h5, hf, hk, hkn, hkc, hpr, hP => by
    have IH := Lib.hid (l06Between_c width root hw hlf f)
    rcases Nat.lt_or_ge s n with hn | hn
    · obtain ⟨k1, k2, k3⟩ := halfN_bd (n := n) (by omega) h5
      have HH := Lib.hid (fun W => specHalfOf_c n W (by omega) h5)
      by_cases hlt : s ≤ halfN n
      · have HW := Lib.hid (beW_lo (width := width) (root := root) (f := f) (pr := pr) (wh := wh) hn hlt)
        have hk5 : k ≤ 512 := by rw [hkn]; exact Nat.le_trans (beSt_le h1 hsn h5) h5
        rw [beSt_lo hn hlt] at hkn
        obtain ⟨j, hj⟩ : ∃ j, j = beSt f s (halfN n) wh := ⟨_, rfl⟩
        rw [← hj] at hkn
        have hsz := beW_size hw hlf (f := f) (s := s) (n := (halfN n)) (pr := prI pr) (wh := wh) (by omega) (by omega) (by omega) (prI_are hpr) (by rw [prI_len (hk.trans hkn), hj])
        rw [← hj] at hsz
        have hxs := prL_size hpr (by omega)
        have hxg := prL_get (hk.trans hkn)
        have hw2 := inR_true.1 hw
        obtain ⟨b, off, x0, rfl, hb, hks, hcl⟩ := hP.str (k := j) (by omega)
        obtain rfl : prL pr = x0 := Option.some.inj (hxg.symm.trans hks)
        have HI := Lib.hid (fun W (h : Rd W 0 W.heap.size (some ⟨b, off, none⟩) (strs (prI pr))) => IH.out s (halfN n) j cp 0 W.heap.size (some ⟨b, off, none⟩) (prI pr) wh W (by omega) (by omega) (by omega) (by omega) (prI_len (hk.trans hkn)) hj (by omega) (prI_are hpr) h)
        have HP : Hid (Rd w 0 w.heap.size (some ⟨b, off, none⟩) (strs (prI pr))) := Lib.hid (hP.takeS _).base
        obtain ⟨hszs, hszb, hlen⟩ := hsz
        obtain ⟨hf, hhf⟩ : ∃ hf, hf = halfN n := ⟨_, rfl⟩
        rw [← hhf] at HW HH HI k1 k2 k3 hlt hszs hszb hlen
        generalize (beW width root f s hf (prI pr) wh).s = r at *
        generalize (beW width root f s hf (prI pr) wh).b = q at *
        generalize (beW width root f s hf (prI pr) wh).t = t at *
        generalize prL pr = x at *
        generalize prI pr = pi at *
        have E1 : IntKind.i64.wrap ((k : Int) - 1) = j := by rw [IntKind.wrap_i64]; omega
        have E2 : (k : Int) - 1 = j := by omega
        have E3 : (j : Int) < k := by omega
        have E4 : (j : Int) ≤ cp := by omega
        have E5 : (k : Int) ≤ 512 := by omega
        have E6 : decide ((n : Int) ≤ s) = false := decide_eq_false (by omega)
        have E7 : ((k : Int) == 0) = false := beq_eq_false_iff_ne.2 (by omega)
        have htl : t.length ≤ 1024 := by omega
        clear hhf hP hkn hk hj hxg hks IH hlf hlen
        obtain ⟨u, hs1⟩ : ∃ s, s = q ++ x := ⟨_, rfl⟩
        have c1 := fun W : World => run_string_add_sum (P := Try.prog) W q x (by omega)
        have z1 : u.size ≤ 64 := by rw [hs1, ByteArray.size_append]; omega
        rw [← hs1] at c1
        have HS1 := Lib.hid hs1
        clear hs1
        have HND1 : Hid (digM width 1 u = nodeT width q x) := Lib.hid (by rw [nodeT, ← HS1.out])
        have HDG1 := Lib.hid (fun W => specDigest_c width 1 u W (by unfold maxLen; omega))
        have hdo1 : digOk width 1 u = true := by rw [digOk, hw, Bool.true_and, Bool.and_eq_true]; exact ⟨by decide, decide_eq_true (by omega)⟩
        rw [hdo1, HND1.out] at HDG1
        rw [← HS1.out] at HW
        clear HND1 HS1 hdo1
        generalize nodeT width q x = na at *
        have HSA : Hid (strs (t ++ [u]) = strs t ++ strs [u]) := Lib.hid (strs_app _ _)
        have HTL : Hid ((t ++ [u]).length = t.length + 1) := Lib.hid (by simp)
        generalize t ++ [u] = ts at *
        generalize ht : t.length = tl at *
        have HT := Lib.hid ht
        clear hw hszs hszb hxs ht
        have HB : Hid (Below w.heap.size w w) := Below.refl _ _
        go_enter Try.func127, Try.ntmps127
        go_wp2_with fail
        refine calls_named (fun w1 hw => ?_)
        have hz1 : w.heap.size + 1 ≤ w1.heap.size := by rw [hw]; first | omega | (simp [World.setCell]; done) | (simp [World.setCell]; omega)
        have hzz1 : w.heap.size ≤ w1.heap.size := by omega
        replace HB : Hid (Below w.heap.size w w1) := by rw [Hid, hw]; exact (by ((repeat (first | ((with_reducible refine Below.alloc ?_ ?_ _); rotate_left 1; (focus (first | omega | (simp; done) | (simp; omega)))) | (with_reducible refine Below.drew ?_) | ((with_reducible refine Below.setCell ?_ ?_ _); rotate_left 1; (focus (first | omega | (simp; done) | (simp; omega)))))); exact HB.out))
        have HXq : Hid (NewBox w1 (w.heap.size) [.string ⟨#[]⟩, .string ⟨#[]⟩, .slice none 0 0]) := by rw [Hid, hw]; exact ⟨by first | omega | (simp [World.setCell]; done) | (simp [World.setCell]; omega), fun o => by rcases o with _ | _ | _ | o <;> go_simp, fun o => by go_simp⟩
        have hxq := HXq.out.2.1
        have hfq := HXq.out.2.2
        have hkq := HXq.out.1
        clear hw
        refine (HH.out _).mono ?_
        rintro e w2_ ⟨rfl, rfl⟩
        go_wp2_with fail
        refine calls_named (fun w3 hw => ?_)
        have hz3 : w1.heap.size + 0 ≤ w3.heap.size := by rw [hw]; first | omega | (simp [World.setCell]; done) | (simp [World.setCell]; omega)
        have hzz3 : w.heap.size ≤ w3.heap.size := by omega
        replace HB : Hid (Below w.heap.size w w3) := by rw [Hid, hw]; exact (by ((repeat (first | ((with_reducible refine Below.alloc ?_ ?_ _); rotate_left 1; (focus (first | omega | (simp; done) | (simp; omega)))) | (with_reducible refine Below.drew ?_) | ((with_reducible refine Below.setCell ?_ ?_ _); rotate_left 1; (focus (first | omega | (simp; done) | (simp; omega)))))); exact HB.out))
        replace HXq : Hid (NewBox w3 (w.heap.size) [.string ⟨#[]⟩, .string ⟨#[]⟩, .slice none 0 0]) := by rw [Hid, hw]; (repeat (first | (with_reducible refine NewBox.alloc ?_ _) | (with_reducible refine NewBox.drew ?_) | ((with_reducible refine NewBox.setCell ?_ ?_ _); rotate_left 1; (focus (first | omega | (simp; done) | (simp; omega)))))); exact HXq.out
        clear hxq hfq hkq
        have hxq := HXq.out.2.1
        have hfq := HXq.out.2.2
        have hkq := HXq.out.1
        clear hw
        refine (HI.out _ (HP.out.below HB.out).base).mono ?_
        rintro e w4 ⟨A2, c2, rfl, hown, hb⟩
        have hzw4 : w3.heap.size ≤ w4.heap.size := hb.size
        have hzzw4 : w.heap.size ≤ w4.heap.size := by omega
        replace HB : Hid (Below w.heap.size w w4) := below_then HB.out hb HB.out.size
        replace HXq : Hid (NewBox w4 (w.heap.size) [.string ⟨#[]⟩, .string ⟨#[]⟩, .slice none 0 0]) := HXq.out.below hb
        clear hxq hfq hkq
        have hxq := HXq.out.2.1
        have hfq := HXq.out.2.2
        have hkq := HXq.out.1
        clear hb
        have hpv : w.heap.size + 1 ≤ w3.heap.size := by omega
        have HOT : Hid (RowB w4 (w3.heap.size) (w4.heap.size) ((.slice A2 tl c2, tl)) (strs t)) := RowB.of hown
        clear hown
        go_wp2_with fail
        refine wp_named (fun w5 hw => ?_)
        have hz5 : w4.heap.size + 1 ≤ w5.heap.size := by rw [hw]; first | omega | (simp [World.setCell]; done) | (simp [World.setCell]; omega)
        have hzz5 : w.heap.size ≤ w5.heap.size := by omega
        replace HB : Hid (Below w.heap.size w w5) := by rw [Hid, hw]; exact (by ((repeat (first | ((with_reducible refine Below.alloc ?_ ?_ _); rotate_left 1; (focus (first | omega | (simp; done) | (simp; omega)))) | (with_reducible refine Below.drew ?_) | ((with_reducible refine Below.setCell ?_ ?_ _); rotate_left 1; (focus (first | omega | (simp; done) | (simp; omega)))))); exact HB.out))
        replace HOT : Hid (RowB w5 (w3.heap.size) (w4.heap.size) ((.slice A2 tl c2, tl)) (strs t)) := by rw [Hid, hw]; (repeat (first | (with_reducible refine RowB.alloc ?_ _) | (with_reducible refine RowB.drew ?_) | ((with_reducible refine RowB.setCell ?_ ?_ _); rotate_left 1; (focus (first | omega | (simp; done) | (simp; omega)))))); exact HOT.out
        replace HXq : Hid (NewBox w5 (w.heap.size) [.string ⟨#[]⟩, .string ⟨#[]⟩, .slice none 0 0]) := by rw [Hid, hw]; (repeat (first | (with_reducible refine NewBox.alloc ?_ _) | (with_reducible refine NewBox.drew ?_) | ((with_reducible refine NewBox.setCell ?_ ?_ _); rotate_left 1; (focus (first | omega | (simp; done) | (simp; omega)))))); exact HXq.out
        clear hxq hfq hkq
        have hxq := HXq.out.2.1
        have hfq := HXq.out.2.2
        have hkq := HXq.out.1
        have HXv : Hid (NewBox w5 (w4.heap.size) [.string r, .string q, .slice A2 tl c2]) := by rw [Hid, hw]; exact ⟨by first | omega | (simp [World.setCell]; done) | (simp [World.setCell]; omega), fun o => by rcases o with _ | _ | _ | o <;> go_simp, fun o => by go_simp⟩
        have hxv := HXv.out.2.1
        have hfv := HXv.out.2.2
        have hkv := HXv.out.1
        clear hw
        have hbw : b < w.heap.size := hb
        have hcl2 : w5.cell? ⟨b, off + j, none⟩ = some (.string x) := (HB.out.cell (p := ⟨b, off + j, none⟩) hbw).trans hcl
        go_quiet (fail)
        generalize hwA : (w5).drewN _ = wA
        have hbA : Below (w5).heap.size w5 wA := by rw [← hwA]; exact below_drewN _ _
        clear hwA hcl2
        have hzwA : w5.heap.size ≤ wA.heap.size := hbA.size
        have hzzwA : w.heap.size ≤ wA.heap.size := by omega
        replace HB : Hid (Below w.heap.size w wA) := below_then HB.out hbA HB.out.size
        replace HOT : Hid (RowB wA (w3.heap.size) (w4.heap.size) ((.slice A2 tl c2, tl)) (strs t)) := HOT.out.below hbA
        replace HXq : Hid (NewBox wA (w.heap.size) [.string ⟨#[]⟩, .string ⟨#[]⟩, .slice none 0 0]) := HXq.out.below hbA
        clear hxq hfq hkq
        have hxq := HXq.out.2.1
        have hfq := HXq.out.2.2
        have hkq := HXq.out.1
        replace HXv : Hid (NewBox wA (w4.heap.size) [.string r, .string q, .slice A2 tl c2]) := HXv.out.below hbA
        clear hxv hfv hkv
        have hxv := HXv.out.2.1
        have hfv := HXv.out.2.2
        have hkv := HXv.out.1
        clear hbA
        go_wp2_with (at_builtin; refine appStrL rfl _ _ rfl (w3.heap.size) (w4.heap.size) (wA).heap.size 1 _ _ _ [u] rfl (HOT.out.alloc _) rfl rfl (NewBox.new wA #[.string u] _) (by omega) (by omega) (by first | omega | (simp; done) | (simp; omega)) ((wA).heap.size + 1) (by simp) ?_)
        intro g7 c7 wB hg1 hg2 hg3 hrow7 hon7
        rw [← HSA.out] at hrow7
        replace hon7 : Only w3.heap.size w4.heap.size wA wB := (Only.of_below ((Below.refl _ _).alloc (Nat.le_refl _) _)).trans hon7
        have HROW7 := Lib.hid hrow7
        clear hrow7 HOT
        have hzwB : wA.heap.size ≤ wB.heap.size := hon7.size
        have hzzwB : w.heap.size ≤ wB.heap.size := by omega
        replace HB : Hid (Below w.heap.size w wB) := below_only HB.out hon7 (by omega) HB.out.size
        replace HXq : Hid (NewBox wB (w.heap.size) [.string ⟨#[]⟩, .string ⟨#[]⟩, .slice none 0 0]) := HXq.out.only hon7 (by first | omega | (simp; omega))
        clear hxq hfq hkq
        have hxq := HXq.out.2.1
        have hfq := HXq.out.2.2
        have hkq := HXq.out.1
        replace HXv : Hid (NewBox wB (w4.heap.size) [.string r, .string q, .slice A2 tl c2]) := HXv.out.only hon7 (by first | omega | (simp; omega))
        clear hxv hfv hkv
        have hxv := HXv.out.2.1
        have hfv := HXv.out.2.2
        have hkv := HXv.out.1
        clear hon7
        have HOT : Hid (RowB wB (g7) (g7 + 1) ((.slice (some ⟨g7, 0, none⟩) (tl + 1) c7, tl + 1)) (strs ts)) := HROW7.out
        clear HROW7
        go_wp2_with fail
        refine calls_named (fun w6 hw => ?_)
        have hz6 : wB.heap.size + 0 ≤ w6.heap.size := by rw [hw]; first | omega | (simp [World.setCell]; done) | (simp [World.setCell]; omega)
        have hzz6 : w.heap.size ≤ w6.heap.size := by omega
        replace HB : Hid (Below w.heap.size w w6) := by rw [Hid, hw]; exact (by ((repeat (first | ((with_reducible refine Below.alloc ?_ ?_ _); rotate_left 1; (focus (first | omega | (simp; done) | (simp; omega)))) | (with_reducible refine Below.drew ?_) | ((with_reducible refine Below.setCell ?_ ?_ _); rotate_left 1; (focus (first | omega | (simp; done) | (simp; omega)))))); exact HB.out))
        replace HOT : Hid (RowB w6 (g7) (g7 + 1) ((.slice (some ⟨g7, 0, none⟩) (tl + 1) c7, tl + 1)) (strs ts)) := by rw [Hid, hw]; (repeat (first | (with_reducible refine RowB.alloc ?_ _) | (with_reducible refine RowB.drew ?_) | ((with_reducible refine RowB.setCell ?_ ?_ _); rotate_left 1; (focus (first | omega | (simp; done) | (simp; omega)))))); exact HOT.out
        replace HXq : Hid (NewBox w6 (w.heap.size) [.string ⟨#[]⟩, .string ⟨#[]⟩, .slice none 0 0]) := by rw [Hid, hw]; (repeat (first | (with_reducible refine NewBox.alloc ?_ _) | (with_reducible refine NewBox.drew ?_) | ((with_reducible refine NewBox.setCell ?_ ?_ _); rotate_left 1; (focus (first | omega | (simp; done) | (simp; omega)))))); exact HXq.out
        clear hxq hfq hkq
        have hxq := HXq.out.2.1
        have hfq := HXq.out.2.2
        have hkq := HXq.out.1
        replace HXv : Hid (NewBox w6 (w4.heap.size) [.string r, .string q, .slice (some ⟨g7, 0, none⟩) (tl + 1) c7]) := by rw [Hid, hw]; apply NewBox.cast; (focus ((repeat (first | (with_reducible apply NewBox.alloc) | (with_reducible apply NewBox.drew) | (with_reducible apply NewBox.set1) | ((with_reducible apply NewBox.far); (focus (first | omega | (simp; done) | (simp; omega)))))); exact HXv.out)); rfl
        clear hxv hfv hkv
        have hxv := HXv.out.2.1
        have hfv := HXv.out.2.2
        have hkv := HXv.out.1
        clear hw
        refine (HDG1.out _).mono ?_
        rintro e w7 ⟨rfl, hb⟩
        have hzw7 : w6.heap.size ≤ w7.heap.size := hb.size
        have hzzw7 : w.heap.size ≤ w7.heap.size := by omega
        replace HB : Hid (Below w.heap.size w w7) := below_then HB.out hb HB.out.size
        replace HOT : Hid (RowB w7 (g7) (g7 + 1) ((.slice (some ⟨g7, 0, none⟩) (tl + 1) c7, tl + 1)) (strs ts)) := HOT.out.below hb
        replace HXq : Hid (NewBox w7 (w.heap.size) [.string ⟨#[]⟩, .string ⟨#[]⟩, .slice none 0 0]) := HXq.out.below hb
        clear hxq hfq hkq
        have hxq := HXq.out.2.1
        have hfq := HXq.out.2.2
        have hkq := HXq.out.1
        replace HXv : Hid (NewBox w7 (w4.heap.size) [.string r, .string q, .slice (some ⟨g7, 0, none⟩) (tl + 1) c7]) := HXv.out.below hb
        clear hxv hfv hkv
        have hxv := HXv.out.2.1
        have hfv := HXv.out.2.2
        have hkv := HXv.out.1
        clear hb
        go_wp2
        refine bodyPost_named (fun w8 hw => ?_)
        have hz8 : w7.heap.size + 0 ≤ w8.heap.size := by rw [hw]; first | omega | (simp [World.setCell]; done) | (simp [World.setCell]; omega)
        have hzz8 : w.heap.size ≤ w8.heap.size := by omega
        replace HB : Hid (Below w.heap.size w w8) := by rw [Hid, hw]; exact (by ((repeat (first | ((with_reducible refine Below.alloc ?_ ?_ _); rotate_left 1; (focus (first | omega | (simp; done) | (simp; omega)))) | (with_reducible refine Below.drew ?_) | ((with_reducible refine Below.setCell ?_ ?_ _); rotate_left 1; (focus (first | omega | (simp; done) | (simp; omega)))))); exact HB.out))
        replace HOT : Hid (RowB w8 (g7) (g7 + 1) ((.slice (some ⟨g7, 0, none⟩) (tl + 1) c7, tl + 1)) (strs ts)) := by rw [Hid, hw]; (repeat (first | (with_reducible refine RowB.alloc ?_ _) | (with_reducible refine RowB.drew ?_) | ((with_reducible refine RowB.setCell ?_ ?_ _); rotate_left 1; (focus (first | omega | (simp; done) | (simp; omega)))))); exact HOT.out
        replace HXq : Hid (NewBox w8 (w.heap.size) [.string r, .string na, .slice (some ⟨g7, 0, none⟩) (tl + 1) c7]) := by rw [Hid, hw]; apply NewBox.cast; (focus ((repeat (first | (with_reducible apply NewBox.alloc) | (with_reducible apply NewBox.drew) | (with_reducible apply NewBox.set1) | ((with_reducible apply NewBox.far); (focus (first | omega | (simp; done) | (simp; omega)))))); exact HXq.out)); rfl
        clear hxq hfq hkq
        have hxq := HXq.out.2.1
        have hfq := HXq.out.2.2
        have hkq := HXq.out.1
        replace HXv : Hid (NewBox w8 (w4.heap.size) [.string r, .string na, .slice (some ⟨g7, 0, none⟩) (tl + 1) c7]) := by rw [Hid, hw]; apply NewBox.cast; (focus ((repeat (first | (with_reducible apply NewBox.alloc) | (with_reducible apply NewBox.drew) | (with_reducible apply NewBox.set1) | ((with_reducible apply NewBox.far); (focus (first | omega | (simp; done) | (simp; omega)))))); exact HXv.out)); rfl
        clear hxv hfv hkv
        have hxv := HXv.out.2.1
        have hfv := HXv.out.2.2
        have hkv := HXv.out.1
        clear hw
        refine bodyPost_ret (v := .agg #[.string r, .string na, .slice (some ⟨g7, 0, none⟩) (tl + 1) c7]) (by simp [results, Try.results127, go_sem, hxq]) rfl ?_
        rw [HW.out]
        refine ⟨_, c7, by rw [HTL.out], ?_, HB.out⟩
        rw [HTL.out]
        exact row_mono HOT.out.1 (by omega)
      · have HW := Lib.hid (beW_hi (width := width) (root := root) (f := f) (pr := pr) (wh := wh) hn hlt)
        have hk5 : k ≤ 512 := by rw [hkn]; exact Nat.le_trans (beSt_le h1 hsn h5) h5
        rw [beSt_hi hn hlt] at hkn
        obtain ⟨j, hj⟩ : ∃ j, j = beSt f (s - halfN n) (n - halfN n) false := ⟨_, rfl⟩
        rw [← hj] at hkn
        have hsz := beW_size hw hlf (f := f) (s := (s - halfN n)) (n := (n - halfN n)) (pr := prI pr) (wh := false) (by omega) (by omega) (by omega) (prI_are hpr) (by rw [prI_len (hk.trans hkn), hj])
        rw [← hj] at hsz
        have hxs := prL_size hpr (by omega)
        have hxg := prL_get (hk.trans hkn)
        have hw2 := inR_true.1 hw
        obtain ⟨b, off, x0, rfl, hb, hks, hcl⟩ := hP.str (k := j) (by omega)
        obtain rfl : prL pr = x0 := Option.some.inj (hxg.symm.trans hks)
        have HI := Lib.hid (fun W (h : Rd W 0 W.heap.size (some ⟨b, off, none⟩) (strs (prI pr))) => IH.out (s - halfN n) (n - halfN n) j cp 0 W.heap.size (some ⟨b, off, none⟩) (prI pr) false W (by omega) (by omega) (by omega) (by omega) (prI_len (hk.trans hkn)) hj (by omega) (prI_are hpr) h)
        have HP : Hid (Rd w 0 w.heap.size (some ⟨b, off, none⟩) (strs (prI pr))) := Lib.hid (hP.takeS _).base
        obtain ⟨hszs, hszb, hlen⟩ := hsz
        obtain ⟨hf, hhf⟩ : ∃ hf, hf = halfN n := ⟨_, rfl⟩
        rw [← hhf] at HW HH HI k1 k2 k3 hlt hszs hszb hlen
        obtain ⟨n2, hn2⟩ : ∃ n2, n2 = n - hf := ⟨_, rfl⟩
        obtain ⟨s2, hs2⟩ : ∃ s2, s2 = s - hf := ⟨_, rfl⟩
        have F1 : IntKind.i64.wrap ((n : Int) - hf) = n2 := by rw [IntKind.wrap_i64]; omega
        have F2 : IntKind.i64.wrap ((s : Int) - hf) = s2 := by rw [IntKind.wrap_i64]; omega
        have F3 : (n : Int) - hf = n2 := by omega
        have F4 : (s : Int) - hf = s2 := by omega
        rw [← hn2, ← hs2] at HW HI hszs hszb hlen
        generalize (beW width root f s2 n2 (prI pr) false).s = r at *
        generalize (beW width root f s2 n2 (prI pr) false).b = q at *
        generalize (beW width root f s2 n2 (prI pr) false).t = t at *
        generalize prL pr = x at *
        generalize prI pr = pi at *
        have E1 : IntKind.i64.wrap ((k : Int) - 1) = j := by rw [IntKind.wrap_i64]; omega
        have E2 : (k : Int) - 1 = j := by omega
        have E3 : (j : Int) < k := by omega
        have E4 : (j : Int) ≤ cp := by omega
        have E5 : (k : Int) ≤ 512 := by omega
        have E6 : decide ((n : Int) ≤ s) = false := decide_eq_false (by omega)
        have E7 : ((k : Int) == 0) = false := beq_eq_false_iff_ne.2 (by omega)
        have htl : t.length ≤ 1024 := by omega
        clear hhf hP hkn hk hj hxg hks IH hlf hlen hn2 hs2
        obtain ⟨u, hs1⟩ : ∃ s, s = x ++ r := ⟨_, rfl⟩
        have c1 := fun W : World => run_string_add_sum (P := Try.prog) W x r (by omega)
        have z1 : u.size ≤ 64 := by rw [hs1, ByteArray.size_append]; omega
        rw [← hs1] at c1
        have HS1 := Lib.hid hs1
        clear hs1
        have HND1 : Hid (digM width 1 u = nodeT width x r) := Lib.hid (by rw [nodeT, ← HS1.out])
        have HDG1 := Lib.hid (fun W => specDigest_c width 1 u W (by unfold maxLen; omega))
        have hdo1 : digOk width 1 u = true := by rw [digOk, hw, Bool.true_and, Bool.and_eq_true]; exact ⟨by decide, decide_eq_true (by omega)⟩
        rw [hdo1, HND1.out] at HDG1
        rw [← HS1.out] at HW
        clear HND1 HS1 hdo1
        generalize nodeT width x r = na at *
        obtain ⟨v, hs2⟩ : ∃ s, s = x ++ q := ⟨_, rfl⟩
        have c2 := fun W : World => run_string_add_sum (P := Try.prog) W x q (by omega)
        have z2 : v.size ≤ 64 := by rw [hs2, ByteArray.size_append]; omega
        rw [← hs2] at c2
        have HS2 := Lib.hid hs2
        clear hs2
        have HND2 : Hid (digM width 1 v = nodeT width x q) := Lib.hid (by rw [nodeT, ← HS2.out])
        have HDG2 := Lib.hid (fun W => specDigest_c width 1 v W (by unfold maxLen; omega))
        have hdo2 : digOk width 1 v = true := by rw [digOk, hw, Bool.true_and, Bool.and_eq_true]; exact ⟨by decide, decide_eq_true (by omega)⟩
        rw [hdo2, HND2.out] at HDG2
        rw [← HS2.out] at HW
        clear HND2 HS2 hdo2
        generalize nodeT width x q = nb at *
        rw [List.append_assoc, List.singleton_append] at HW
        have HSA : Hid (strs (t ++ [u, v]) = strs t ++ strs [u, v]) := Lib.hid (strs_app _ _)
        have HTL : Hid ((t ++ [u, v]).length = t.length + 2) := Lib.hid (by simp)
        generalize t ++ [u, v] = ts at *
        generalize ht : t.length = tl at *
        have HT := Lib.hid ht
        clear hw hszs hszb hxs ht
        have HB : Hid (Below w.heap.size w w) := Below.refl _ _
        go_enter Try.func127, Try.ntmps127
        go_wp2_with fail
        refine calls_named (fun w1 hw => ?_)
        have hz1 : w.heap.size + 1 ≤ w1.heap.size := by rw [hw]; first | omega | (simp [World.setCell]; done) | (simp [World.setCell]; omega)
        have hzz1 : w.heap.size ≤ w1.heap.size := by omega
        replace HB : Hid (Below w.heap.size w w1) := by rw [Hid, hw]; exact (by ((repeat (first | ((with_reducible refine Below.alloc ?_ ?_ _); rotate_left 1; (focus (first | omega | (simp; done) | (simp; omega)))) | (with_reducible refine Below.drew ?_) | ((with_reducible refine Below.setCell ?_ ?_ _); rotate_left 1; (focus (first | omega | (simp; done) | (simp; omega)))))); exact HB.out))
        have HXq : Hid (NewBox w1 (w.heap.size) [.string ⟨#[]⟩, .string ⟨#[]⟩, .slice none 0 0]) := by rw [Hid, hw]; exact ⟨by first | omega | (simp [World.setCell]; done) | (simp [World.setCell]; omega), fun o => by rcases o with _ | _ | _ | o <;> go_simp, fun o => by go_simp⟩
        have hxq := HXq.out.2.1
        have hfq := HXq.out.2.2
        have hkq := HXq.out.1
        clear hw
        refine (HH.out _).mono ?_
        rintro e w2_ ⟨rfl, rfl⟩
        go_wp2_with fail
        refine calls_named (fun w3 hw => ?_)
        have hz3 : w1.heap.size + 0 ≤ w3.heap.size := by rw [hw]; first | omega | (simp [World.setCell]; done) | (simp [World.setCell]; omega)
        have hzz3 : w.heap.size ≤ w3.heap.size := by omega
        replace HB : Hid (Below w.heap.size w w3) := by rw [Hid, hw]; exact (by ((repeat (first | ((with_reducible refine Below.alloc ?_ ?_ _); rotate_left 1; (focus (first | omega | (simp; done) | (simp; omega)))) | (with_reducible refine Below.drew ?_) | ((with_reducible refine Below.setCell ?_ ?_ _); rotate_left 1; (focus (first | omega | (simp; done) | (simp; omega)))))); exact HB.out))
        replace HXq : Hid (NewBox w3 (w.heap.size) [.string ⟨#[]⟩, .string ⟨#[]⟩, .slice none 0 0]) := by rw [Hid, hw]; (repeat (first | (with_reducible refine NewBox.alloc ?_ _) | (with_reducible refine NewBox.drew ?_) | ((with_reducible refine NewBox.setCell ?_ ?_ _); rotate_left 1; (focus (first | omega | (simp; done) | (simp; omega)))))); exact HXq.out
        clear hxq hfq hkq
        have hxq := HXq.out.2.1
        have hfq := HXq.out.2.2
        have hkq := HXq.out.1
        clear hw
        refine (HI.out _ (HP.out.below HB.out).base).mono ?_
        rintro e w4 ⟨A2, c2, rfl, hown, hb⟩
        have hzw4 : w3.heap.size ≤ w4.heap.size := hb.size
        have hzzw4 : w.heap.size ≤ w4.heap.size := by omega
        replace HB : Hid (Below w.heap.size w w4) := below_then HB.out hb HB.out.size
        replace HXq : Hid (NewBox w4 (w.heap.size) [.string ⟨#[]⟩, .string ⟨#[]⟩, .slice none 0 0]) := HXq.out.below hb
        clear hxq hfq hkq
        have hxq := HXq.out.2.1
        have hfq := HXq.out.2.2
        have hkq := HXq.out.1
        clear hb
        have hpv : w.heap.size + 1 ≤ w3.heap.size := by omega
        have HOT : Hid (RowB w4 (w3.heap.size) (w4.heap.size) ((.slice A2 tl c2, tl)) (strs t)) := RowB.of hown
        clear hown
        go_wp2_with fail
        refine wp_named (fun w5 hw => ?_)
        have hz5 : w4.heap.size + 1 ≤ w5.heap.size := by rw [hw]; first | omega | (simp [World.setCell]; done) | (simp [World.setCell]; omega)
        have hzz5 : w.heap.size ≤ w5.heap.size := by omega
        replace HB : Hid (Below w.heap.size w w5) := by rw [Hid, hw]; exact (by ((repeat (first | ((with_reducible refine Below.alloc ?_ ?_ _); rotate_left 1; (focus (first | omega | (simp; done) | (simp; omega)))) | (with_reducible refine Below.drew ?_) | ((with_reducible refine Below.setCell ?_ ?_ _); rotate_left 1; (focus (first | omega | (simp; done) | (simp; omega)))))); exact HB.out))
        replace HOT : Hid (RowB w5 (w3.heap.size) (w4.heap.size) ((.slice A2 tl c2, tl)) (strs t)) := by rw [Hid, hw]; (repeat (first | (with_reducible refine RowB.alloc ?_ _) | (with_reducible refine RowB.drew ?_) | ((with_reducible refine RowB.setCell ?_ ?_ _); rotate_left 1; (focus (first | omega | (simp; done) | (simp; omega)))))); exact HOT.out
        replace HXq : Hid (NewBox w5 (w.heap.size) [.string ⟨#[]⟩, .string ⟨#[]⟩, .slice none 0 0]) := by rw [Hid, hw]; (repeat (first | (with_reducible refine NewBox.alloc ?_ _) | (with_reducible refine NewBox.drew ?_) | ((with_reducible refine NewBox.setCell ?_ ?_ _); rotate_left 1; (focus (first | omega | (simp; done) | (simp; omega)))))); exact HXq.out
        clear hxq hfq hkq
        have hxq := HXq.out.2.1
        have hfq := HXq.out.2.2
        have hkq := HXq.out.1
        have HXv : Hid (NewBox w5 (w4.heap.size) [.string r, .string q, .slice A2 tl c2]) := by rw [Hid, hw]; exact ⟨by first | omega | (simp [World.setCell]; done) | (simp [World.setCell]; omega), fun o => by rcases o with _ | _ | _ | o <;> go_simp, fun o => by go_simp⟩
        have hxv := HXv.out.2.1
        have hfv := HXv.out.2.2
        have hkv := HXv.out.1
        clear hw
        have hbw : b < w.heap.size := hb
        have hcl2 : w5.cell? ⟨b, off + j, none⟩ = some (.string x) := (HB.out.cell (p := ⟨b, off + j, none⟩) hbw).trans hcl
        go_quiet (fail)
        generalize hwA : (w5).drewN _ = wA
        have hbA : Below (w5).heap.size w5 wA := by rw [← hwA]; exact below_drewN _ _
        clear hwA hcl2
        have hzwA : w5.heap.size ≤ wA.heap.size := hbA.size
        have hzzwA : w.heap.size ≤ wA.heap.size := by omega
        replace HB : Hid (Below w.heap.size w wA) := below_then HB.out hbA HB.out.size
        replace HOT : Hid (RowB wA (w3.heap.size) (w4.heap.size) ((.slice A2 tl c2, tl)) (strs t)) := HOT.out.below hbA
        replace HXq : Hid (NewBox wA (w.heap.size) [.string ⟨#[]⟩, .string ⟨#[]⟩, .slice none 0 0]) := HXq.out.below hbA
        clear hxq hfq hkq
        have hxq := HXq.out.2.1
        have hfq := HXq.out.2.2
        have hkq := HXq.out.1
        replace HXv : Hid (NewBox wA (w4.heap.size) [.string r, .string q, .slice A2 tl c2]) := HXv.out.below hbA
        clear hxv hfv hkv
        have hxv := HXv.out.2.1
        have hfv := HXv.out.2.2
        have hkv := HXv.out.1
        clear hbA
        have hcl3 : wA.cell? ⟨b, off + j, none⟩ = some (.string x) := (HB.out.cell (p := ⟨b, off + j, none⟩) hbw).trans hcl
        go_wp2_with fail
        go_quiet (fail)
        generalize hwC : (wA).drewN _ = wC
        have hbC : Below (wA).heap.size wA wC := by rw [← hwC]; exact below_drewN _ _
        clear hwC hcl3
        have hzwC : wA.heap.size ≤ wC.heap.size := hbC.size
        have hzzwC : w.heap.size ≤ wC.heap.size := by omega
        replace HB : Hid (Below w.heap.size w wC) := below_then HB.out hbC HB.out.size
        replace HOT : Hid (RowB wC (w3.heap.size) (w4.heap.size) ((.slice A2 tl c2, tl)) (strs t)) := HOT.out.below hbC
        replace HXq : Hid (NewBox wC (w.heap.size) [.string ⟨#[]⟩, .string ⟨#[]⟩, .slice none 0 0]) := HXq.out.below hbC
        clear hxq hfq hkq
        have hxq := HXq.out.2.1
        have hfq := HXq.out.2.2
        have hkq := HXq.out.1
        replace HXv : Hid (NewBox wC (w4.heap.size) [.string r, .string q, .slice A2 tl c2]) := HXv.out.below hbC
        clear hxv hfv hkv
        have hxv := HXv.out.2.1
        have hfv := HXv.out.2.2
        have hkv := HXv.out.1
        clear hbC
        go_wp2_with (at_builtin; refine appStrL rfl _ _ rfl (w3.heap.size) (w4.heap.size) (wC).heap.size 2 _ _ _ [u, v] rfl (HOT.out.alloc _) rfl rfl (NewBox.new wC #[.string u, .string v] _) (by omega) (by omega) (by first | omega | (simp; done) | (simp; omega)) ((wC).heap.size + 1) (by simp) ?_)
        intro g7 c7 wB hg1 hg2 hg3 hrow7 hon7
        rw [← HSA.out] at hrow7
        replace hon7 : Only w3.heap.size w4.heap.size wC wB := (Only.of_below ((Below.refl _ _).alloc (Nat.le_refl _) _)).trans hon7
        have HROW7 := Lib.hid hrow7
        clear hrow7 HOT
        have hzwB : wC.heap.size ≤ wB.heap.size := hon7.size
        have hzzwB : w.heap.size ≤ wB.heap.size := by omega
        replace HB : Hid (Below w.heap.size w wB) := below_only HB.out hon7 (by omega) HB.out.size
        replace HXq : Hid (NewBox wB (w.heap.size) [.string ⟨#[]⟩, .string ⟨#[]⟩, .slice none 0 0]) := HXq.out.only hon7 (by first | omega | (simp; omega))
        clear hxq hfq hkq
        have hxq := HXq.out.2.1
        have hfq := HXq.out.2.2
        have hkq := HXq.out.1
        replace HXv : Hid (NewBox wB (w4.heap.size) [.string r, .string q, .slice A2 tl c2]) := HXv.out.only hon7 (by first | omega | (simp; omega))
        clear hxv hfv hkv
        have hxv := HXv.out.2.1
        have hfv := HXv.out.2.2
        have hkv := HXv.out.1
        clear hon7
        have HOT : Hid (RowB wB (g7) (g7 + 1) ((.slice (some ⟨g7, 0, none⟩) (tl + 2) c7, tl + 2)) (strs ts)) := HROW7.out
        clear HROW7
        go_wp2_with fail
        refine calls_named (fun w6 hw => ?_)
        have hz6 : wB.heap.size + 0 ≤ w6.heap.size := by rw [hw]; first | omega | (simp [World.setCell]; done) | (simp [World.setCell]; omega)
        have hzz6 : w.heap.size ≤ w6.heap.size := by omega
        replace HB : Hid (Below w.heap.size w w6) := by rw [Hid, hw]; exact (by ((repeat (first | ((with_reducible refine Below.alloc ?_ ?_ _); rotate_left 1; (focus (first | omega | (simp; done) | (simp; omega)))) | (with_reducible refine Below.drew ?_) | ((with_reducible refine Below.setCell ?_ ?_ _); rotate_left 1; (focus (first | omega | (simp; done) | (simp; omega)))))); exact HB.out))
        replace HOT : Hid (RowB w6 (g7) (g7 + 1) ((.slice (some ⟨g7, 0, none⟩) (tl + 2) c7, tl + 2)) (strs ts)) := by rw [Hid, hw]; (repeat (first | (with_reducible refine RowB.alloc ?_ _) | (with_reducible refine RowB.drew ?_) | ((with_reducible refine RowB.setCell ?_ ?_ _); rotate_left 1; (focus (first | omega | (simp; done) | (simp; omega)))))); exact HOT.out
        replace HXq : Hid (NewBox w6 (w.heap.size) [.string ⟨#[]⟩, .string ⟨#[]⟩, .slice none 0 0]) := by rw [Hid, hw]; (repeat (first | (with_reducible refine NewBox.alloc ?_ _) | (with_reducible refine NewBox.drew ?_) | ((with_reducible refine NewBox.setCell ?_ ?_ _); rotate_left 1; (focus (first | omega | (simp; done) | (simp; omega)))))); exact HXq.out
        clear hxq hfq hkq
        have hxq := HXq.out.2.1
        have hfq := HXq.out.2.2
        have hkq := HXq.out.1
        replace HXv : Hid (NewBox w6 (w4.heap.size) [.string r, .string q, .slice (some ⟨g7, 0, none⟩) (tl + 2) c7]) := by rw [Hid, hw]; apply NewBox.cast; (focus ((repeat (first | (with_reducible apply NewBox.alloc) | (with_reducible apply NewBox.drew) | (with_reducible apply NewBox.set1) | ((with_reducible apply NewBox.far); (focus (first | omega | (simp; done) | (simp; omega)))))); exact HXv.out)); rfl
        clear hxv hfv hkv
        have hxv := HXv.out.2.1
        have hfv := HXv.out.2.2
        have hkv := HXv.out.1
        clear hw
        refine (HDG1.out _).mono ?_
        rintro e w7 ⟨rfl, hb⟩
        have hzw7 : w6.heap.size ≤ w7.heap.size := hb.size
        have hzzw7 : w.heap.size ≤ w7.heap.size := by omega
        replace HB : Hid (Below w.heap.size w w7) := below_then HB.out hb HB.out.size
        replace HOT : Hid (RowB w7 (g7) (g7 + 1) ((.slice (some ⟨g7, 0, none⟩) (tl + 2) c7, tl + 2)) (strs ts)) := HOT.out.below hb
        replace HXq : Hid (NewBox w7 (w.heap.size) [.string ⟨#[]⟩, .string ⟨#[]⟩, .slice none 0 0]) := HXq.out.below hb
        clear hxq hfq hkq
        have hxq := HXq.out.2.1
        have hfq := HXq.out.2.2
        have hkq := HXq.out.1
        replace HXv : Hid (NewBox w7 (w4.heap.size) [.string r, .string q, .slice (some ⟨g7, 0, none⟩) (tl + 2) c7]) := HXv.out.below hb
        clear hxv hfv hkv
        have hxv := HXv.out.2.1
        have hfv := HXv.out.2.2
        have hkv := HXv.out.1
        clear hb
        go_wp2_with fail
        refine calls_named (fun w8 hw => ?_)
        have hz8 : w7.heap.size + 0 ≤ w8.heap.size := by rw [hw]; first | omega | (simp [World.setCell]; done) | (simp [World.setCell]; omega)
        have hzz8 : w.heap.size ≤ w8.heap.size := by omega
        replace HB : Hid (Below w.heap.size w w8) := by rw [Hid, hw]; exact (by ((repeat (first | ((with_reducible refine Below.alloc ?_ ?_ _); rotate_left 1; (focus (first | omega | (simp; done) | (simp; omega)))) | (with_reducible refine Below.drew ?_) | ((with_reducible refine Below.setCell ?_ ?_ _); rotate_left 1; (focus (first | omega | (simp; done) | (simp; omega)))))); exact HB.out))
        replace HOT : Hid (RowB w8 (g7) (g7 + 1) ((.slice (some ⟨g7, 0, none⟩) (tl + 2) c7, tl + 2)) (strs ts)) := by rw [Hid, hw]; (repeat (first | (with_reducible refine RowB.alloc ?_ _) | (with_reducible refine RowB.drew ?_) | ((with_reducible refine RowB.setCell ?_ ?_ _); rotate_left 1; (focus (first | omega | (simp; done) | (simp; omega)))))); exact HOT.out
        replace HXq : Hid (NewBox w8 (w.heap.size) [.string ⟨#[]⟩, .string ⟨#[]⟩, .slice none 0 0]) := by rw [Hid, hw]; (repeat (first | (with_reducible refine NewBox.alloc ?_ _) | (with_reducible refine NewBox.drew ?_) | ((with_reducible refine NewBox.setCell ?_ ?_ _); rotate_left 1; (focus (first | omega | (simp; done) | (simp; omega)))))); exact HXq.out
        clear hxq hfq hkq
        have hxq := HXq.out.2.1
        have hfq := HXq.out.2.2
        have hkq := HXq.out.1
        replace HXv : Hid (NewBox w8 (w4.heap.size) [.string na, .string q, .slice (some ⟨g7, 0, none⟩) (tl + 2) c7]) := by rw [Hid, hw]; apply NewBox.cast; (focus ((repeat (first | (with_reducible apply NewBox.alloc) | (with_reducible apply NewBox.drew) | (with_reducible apply NewBox.set1) | ((with_reducible apply NewBox.far); (focus (first | omega | (simp; done) | (simp; omega)))))); exact HXv.out)); rfl
        clear hxv hfv hkv
        have hxv := HXv.out.2.1
        have hfv := HXv.out.2.2
        have hkv := HXv.out.1
        clear hw
        refine (HDG2.out _).mono ?_
        rintro e w9 ⟨rfl, hb⟩
        have hzw9 : w8.heap.size ≤ w9.heap.size := hb.size
        have hzzw9 : w.heap.size ≤ w9.heap.size := by omega
        replace HB : Hid (Below w.heap.size w w9) := below_then HB.out hb HB.out.size
        replace HOT : Hid (RowB w9 (g7) (g7 + 1) ((.slice (some ⟨g7, 0, none⟩) (tl + 2) c7, tl + 2)) (strs ts)) := HOT.out.below hb
        replace HXq : Hid (NewBox w9 (w.heap.size) [.string ⟨#[]⟩, .string ⟨#[]⟩, .slice none 0 0]) := HXq.out.below hb
        clear hxq hfq hkq
        have hxq := HXq.out.2.1
        have hfq := HXq.out.2.2
        have hkq := HXq.out.1
        replace HXv : Hid (NewBox w9 (w4.heap.size) [.string na, .string q, .slice (some ⟨g7, 0, none⟩) (tl + 2) c7]) := HXv.out.below hb
        clear hxv hfv hkv
        have hxv := HXv.out.2.1
        have hfv := HXv.out.2.2
        have hkv := HXv.out.1
        clear hb
        go_wp2
        refine bodyPost_named (fun w10 hw => ?_)
        have hz10 : w9.heap.size + 0 ≤ w10.heap.size := by rw [hw]; first | omega | (simp [World.setCell]; done) | (simp [World.setCell]; omega)
        have hzz10 : w.heap.size ≤ w10.heap.size := by omega
        replace HB : Hid (Below w.heap.size w w10) := by rw [Hid, hw]; exact (by ((repeat (first | ((with_reducible refine Below.alloc ?_ ?_ _); rotate_left 1; (focus (first | omega | (simp; done) | (simp; omega)))) | (with_reducible refine Below.drew ?_) | ((with_reducible refine Below.setCell ?_ ?_ _); rotate_left 1; (focus (first | omega | (simp; done) | (simp; omega)))))); exact HB.out))
        replace HOT : Hid (RowB w10 (g7) (g7 + 1) ((.slice (some ⟨g7, 0, none⟩) (tl + 2) c7, tl + 2)) (strs ts)) := by rw [Hid, hw]; (repeat (first | (with_reducible refine RowB.alloc ?_ _) | (with_reducible refine RowB.drew ?_) | ((with_reducible refine RowB.setCell ?_ ?_ _); rotate_left 1; (focus (first | omega | (simp; done) | (simp; omega)))))); exact HOT.out
        replace HXq : Hid (NewBox w10 (w.heap.size) [.string na, .string nb, .slice (some ⟨g7, 0, none⟩) (tl + 2) c7]) := by rw [Hid, hw]; apply NewBox.cast; (focus ((repeat (first | (with_reducible apply NewBox.alloc) | (with_reducible apply NewBox.drew) | (with_reducible apply NewBox.set1) | ((with_reducible apply NewBox.far); (focus (first | omega | (simp; done) | (simp; omega)))))); exact HXq.out)); rfl
        clear hxq hfq hkq
        have hxq := HXq.out.2.1
        have hfq := HXq.out.2.2
        have hkq := HXq.out.1
        replace HXv : Hid (NewBox w10 (w4.heap.size) [.string na, .string nb, .slice (some ⟨g7, 0, none⟩) (tl + 2) c7]) := by rw [Hid, hw]; apply NewBox.cast; (focus ((repeat (first | (with_reducible apply NewBox.alloc) | (with_reducible apply NewBox.drew) | (with_reducible apply NewBox.set1) | ((with_reducible apply NewBox.far); (focus (first | omega | (simp; done) | (simp; omega)))))); exact HXv.out)); rfl
        clear hxv hfv hkv
        have hxv := HXv.out.2.1
        have hfv := HXv.out.2.2
        have hkv := HXv.out.1
        clear hw
        refine bodyPost_ret (v := .agg #[.string na, .string nb, .slice (some ⟨g7, 0, none⟩) (tl + 2) c7]) (by simp [results, Try.results127, go_sem, hxq]) rfl ?_
        rw [HW.out]
        refine ⟨_, c7, by rw [HTL.out], ?_, HB.out⟩
        rw [HTL.out]
        exact row_mono HOT.out.1 (by omega)
    · obtain rfl : s = n := by omega
      have hk5 : k ≤ 512 := by rw [hkn]; exact Nat.le_trans (beSt_le h1 hsn h5) h5
      rcases wh with _ | _
      · have HW := Lib.hid (beW_end (width := width) (root := root) (f := f) (pr := pr) hn).2
        rw [beSt_end hn, if_neg (by decide)] at hkn
        have hxg := prL_get (k := 0) (hk.trans hkn)
        obtain ⟨b, off, x0, rfl, hb, hks, hcl⟩ := hP.str (k := 0) (by omega)
        obtain rfl : prL pr = x0 := Option.some.inj (hxg.symm.trans hks)
        rw [Nat.add_zero] at hcl
        have hbw : b < w.heap.size := hb
        generalize prL pr = x at *
        subst hkn
        clear hP hk IH hw hlf hxg hks
        have HB : Hid (Below w.heap.size w w) := Below.refl _ _
        go_enter Try.func127, Try.ntmps127
        go_wp2_with fail
        refine wp_named (fun w1 hw => ?_)
        have hz1 : w.heap.size + 1 ≤ w1.heap.size := by rw [hw]; first | omega | (simp [World.setCell]; done) | (simp [World.setCell]; omega)
        have hzz1 : w.heap.size ≤ w1.heap.size := by omega
        replace HB : Hid (Below w.heap.size w w1) := by rw [Hid, hw]; exact (by ((repeat (first | ((with_reducible refine Below.alloc ?_ ?_ _); rotate_left 1; (focus (first | omega | (simp; done) | (simp; omega)))) | (with_reducible refine Below.drew ?_) | ((with_reducible refine Below.setCell ?_ ?_ _); rotate_left 1; (focus (first | omega | (simp; done) | (simp; omega)))))); exact HB.out))
        have HXq : Hid (NewBox w1 (w.heap.size) [.string ⟨#[]⟩, .string ⟨#[]⟩, .slice none 0 0]) := by rw [Hid, hw]; exact ⟨by first | omega | (simp [World.setCell]; done) | (simp [World.setCell]; omega), fun o => by rcases o with _ | _ | _ | o <;> go_simp, fun o => by go_simp⟩
        have hxq := HXq.out.2.1
        have hfq := HXq.out.2.2
        have hkq := HXq.out.1
        clear hw
        have hcl2 : w1.cell? ⟨b, off, none⟩ = some (.string x) := (HB.out.cell (p := ⟨b, off, none⟩) hbw).trans hcl
        go_still_tail 7, (by kernel_rfl)
        change wpList _ _ _ _ _ (w1).drew
        generalize hwD : (w1).drew = wD
        have hbD : Below (w1).heap.size w1 wD := by rw [← hwD]; exact (Below.refl _ _).drew
        clear hwD hcl2
        have hzwD : w1.heap.size ≤ wD.heap.size := hbD.size
        have hzzwD : w.heap.size ≤ wD.heap.size := by omega
        replace HB : Hid (Below w.heap.size w wD) := below_then HB.out hbD HB.out.size
        replace HXq : Hid (NewBox wD (w.heap.size) [.string ⟨#[]⟩, .string ⟨#[]⟩, .slice none 0 0]) := HXq.out.below hbD
        clear hxq hfq hkq
        have hxq := HXq.out.2.1
        have hfq := HXq.out.2.2
        have hkq := HXq.out.1
        clear hbD
        go_wp2
        refine bodyPost_named (fun w2 hw => ?_)
        have hz2 : wD.heap.size + 0 ≤ w2.heap.size := by rw [hw]; first | omega | (simp [World.setCell]; done) | (simp [World.setCell]; omega)
        have hzz2 : w.heap.size ≤ w2.heap.size := by omega
        replace HB : Hid (Below w.heap.size w w2) := by rw [Hid, hw]; exact (by ((repeat (first | ((with_reducible refine Below.alloc ?_ ?_ _); rotate_left 1; (focus (first | omega | (simp; done) | (simp; omega)))) | (with_reducible refine Below.drew ?_) | ((with_reducible refine Below.setCell ?_ ?_ _); rotate_left 1; (focus (first | omega | (simp; done) | (simp; omega)))))); exact HB.out))
        replace HXq : Hid (NewBox w2 (w.heap.size) [.string x, .string x, .slice none 0 0]) := by rw [Hid, hw]; apply NewBox.cast; (focus ((repeat (first | (with_reducible apply NewBox.alloc) | (with_reducible apply NewBox.drew) | (with_reducible apply NewBox.set1) | ((with_reducible apply NewBox.far); (focus (first | omega | (simp; done) | (simp; omega)))))); exact HXq.out)); rfl
        clear hxq hfq hkq
        have hxq := HXq.out.2.1
        have hfq := HXq.out.2.2
        have hkq := HXq.out.1
        clear hw
        refine bodyPost_ret (v := .agg #[.string x, .string x, .slice none 0 0]) (by simp [results, Try.results127, go_sem, hxq]) rfl ?_
        rw [HW.out]
        exact ⟨none, 0, rfl, World.ownsRow_nil _ _ _ _, HB.out⟩
      · have HW := Lib.hid (beW_end (width := width) (root := root) (f := f) (pr := pr) hn).1
        rw [beSt_end hn, if_pos rfl] at hkn
        subst hkn
        clear hP hk IH hw hlf
        have HB : Hid (Below w.heap.size w w) := Below.refl _ _
        go_enter Try.func127, Try.ntmps127
        go_wp2
        refine bodyPost_named (fun w1 hw => ?_)
        have hz1 : w.heap.size + 1 ≤ w1.heap.size := by rw [hw]; first | omega | (simp [World.setCell]; done) | (simp [World.setCell]; omega)
        have hzz1 : w.heap.size ≤ w1.heap.size := by omega
        replace HB : Hid (Below w.heap.size w w1) := by rw [Hid, hw]; exact (by ((repeat (first | ((with_reducible refine Below.alloc ?_ ?_ _); rotate_left 1; (focus (first | omega | (simp; done) | (simp; omega)))) | (with_reducible refine Below.drew ?_) | ((with_reducible refine Below.setCell ?_ ?_ _); rotate_left 1; (focus (first | omega | (simp; done) | (simp; omega)))))); exact HB.out))
        have HXq : Hid (NewBox w1 (w.heap.size) [.string root, .string root, .slice none 0 0]) := by rw [Hid, hw]; exact ⟨by first | omega | (simp [World.setCell]; done) | (simp [World.setCell]; omega), fun o => by rcases o with _ | _ | _ | o <;> go_simp, fun o => by go_simp⟩
        have hxq := HXq.out.2.1
        have hfq := HXq.out.2.2
        have hkq := HXq.out.1
        clear hw
        refine bodyPost_ret (v := .agg #[.string root, .string root, .slice none 0 0]) (by simp [results, Try.results127, go_sem, hxq]) rfl ?_
        rw [HW.out]
        exact ⟨none, 0, rfl, World.ownsRow_nil _ _ _ _, HB.out⟩
end Go.Proofs.Ytojjjhbiccgjkaa
