/- A folder: both roots of proofs (the program's side). -/
import Derived.Test.YtojjjhbiccgjkaaFold
import Derived.BigQuiet
namespace Go.Proofs.Ytojjjhbiccgjkaa
set_option linter.unusedVariables false
set_option linter.unusedSimpArgs false
open Go.RowKit

set_option maxRecDepth 100000 in
set_option maxHeartbeats 4000000 in
theorem froots_c (width : Int) (root : ByteArray) (p base B0 : Nat) (hw : inR width 1 32 = true) (hlf : (root.size : Int) = width) (hB1 : B0 ≤ p) (hB2 : B0 ≤ base) : ∀ (f s n k cp m c : Nat) (P A : Option Addr) (pr l : List ByteArray) (wh : Bool) (w : World),
    1 ≤ s → s ≤ n → n ≤ 512 → n < f → pr.length = k → k = beSt f s n wh → k ≤ cp → areH width pr = true → m + 2 * k ≤ 2000 → base ≤ w.heap.size → Rd w 0 B0 P (strs pr) → RngAt w base p 0 width (.slice A m c) m l →
    Calls Try.prog 176 #[.pointer (some ⟨p, 0, none⟩), .int .i64 s, .string root, .int .i64 n, .slice P k cp, .bool wh] w fun e w' => ∃ A' c', e = .returned (.tuple #[.string (beW width root f s n pr wh).s, .string (beW width root f s n pr wh).b]) ∧
      RngAt w' base p 0 width (.slice A' (m + (beW width root f s n pr wh).t.length) c') (m + (beW width root f s n pr wh).t.length) (l ++ (beW width root f s n pr wh).t) ∧ GrowRel p 0 (.slice A m c) (.slice A' (m + (beW width root f s n pr wh).t.length) c') w w'
  | 0, s, n, k, cp, m, c, P, A, pr, l, wh, w, h1, hsn, h5, hf, hk, hkn, hkc, hpr, hmk, hbase, hP, hR => by omega
  | f + 1, s, n, k, cp, m, c, P, A, pr, l, wh, w, h1, hsn, h5, hf, hk, hkn, hkc, hpr, hmk, hbase, hP, hR => by
    have IH := Lib.hid (froots_c width root p base B0 hw hlf hB1 hB2 f)
    rcases Nat.lt_or_ge s n with hn | hn
    · obtain ⟨k1, k2, k3⟩ := halfN_bd (n := n) (by omega) h5
      have HH := Lib.hid (fun W => implHalfOf_c n W (by omega) h5)
      by_cases hlt : s ≤ halfN n
      · have HW := Lib.hid (beW_lo (width := width) (root := root) (f := f) (pr := pr) (wh := wh) hn hlt)
        rw [beSt_lo hn hlt] at hkn
        obtain ⟨j, hj⟩ : ∃ j, j = beSt f s (halfN n) wh := ⟨_, rfl⟩
        rw [← hj] at hkn
        have hsz := beW_size hw hlf (f := f) (s := s) (n := (halfN n)) (pr := prI pr) (wh := wh) (by omega) (by omega) (by omega) (prI_are hpr) (by rw [prI_len (hk.trans hkn), hj])
        rw [← hj] at hsz
        have hxs := prL_size hpr (by omega)
        have hxg := prL_get (hk.trans hkn)
        obtain ⟨b, off, x0, rfl, hb, hks, hcl⟩ := hP.str (k := j) (by omega)
        obtain rfl : prL pr = x0 := Option.some.inj (hxg.symm.trans hks)
        have hbB : b < B0 := by
          obtain ⟨b', off', e, _, h3, _⟩ := hP (fun e => by rw [strs] at e; have := List.map_eq_nil_iff.1 e; rw [this] at hk; simp at hk; omega)
          cases e; exact h3
        have HI := Lib.hid (IH.out s (halfN n) j cp m c (some ⟨b, off, none⟩) A (prI pr) l wh w (by omega) (by omega) (by omega) (by omega) (prI_len (hk.trans hkn)) hj (by omega) (prI_are hpr) (by omega) hbase (hP.takeS _) hR)
        obtain ⟨hszs, hszb, hlen⟩ := hsz
        obtain ⟨hf, hhf⟩ : ∃ hf, hf = halfN n := ⟨_, rfl⟩
        rw [← hhf] at HW HH HI k1 k2 k3 hlt hszs hszb hlen
        generalize (beW width root f s hf (prI pr) wh).s = r at *
        generalize (beW width root f s hf (prI pr) wh).b = q at *
        generalize (beW width root f s hf (prI pr) wh).t = t at *
        have HP := Lib.hid hP
        have HR := Lib.hid hR
        generalize prL pr = x at *
        have E1 : IntKind.i64.wrap ((k : Int) - 1) = j := by rw [IntKind.wrap_i64]; omega
        have E2 : (k : Int) - 1 = j := by omega
        have E3 : (j : Int) < k := by omega
        have E4 : (j : Int) ≤ cp := by omega
        have E5 : (k : Int) ≤ 2000 := by omega
        have E6 : ((s : Int) == n) = false := beq_eq_false_iff_ne.2 (by omega)
        have HKJ := Lib.hid hkn
        have HN := Lib.hid (fun W A' c' m' l' hm' h1 h2 => fnode_c width p base m' c' A' l' q x W hw hszb hxs hm' h1 h2)
        have hlm : m + t.length + 1 ≤ 2000 := by omega
        clear hhf hP hR hkn hk hj hxg hks hxs hszs hszb hlen IH hw hlf
        go_enter Try.func176, Try.ntmps176
        go_wp2_with fail
        refine (HH.out _).mono ?_
        rintro e w1 ⟨rfl, rfl⟩
        go_wp2_with fail
        refine HI.out.mono ?_
        rintro e w2 ⟨A2, c2, rfl, hR2, hG2⟩
        have HR2 := Lib.hid hR2
        have HG2 := Lib.hid hG2
        have hbe := hG2.toBelow HR.out.row hB1 hB2 (by omega)
        have hcl2 : w2.cell? ⟨b, off + j, none⟩ = some (.string x) := (hbe.cell (p := ⟨b, off + j, none⟩) hbB).trans hcl
        have hb2 : base ≤ w2.heap.size := Nat.le_trans hbase hG2.size
        clear hR2 hG2 hcl HI
        go_wp2_with fail
        refine (HN.out _ _ _ _ _ (by omega) hb2 HR2.out).mono ?_
        rintro e w3 ⟨A3, c3, rfl, hR3, hG3⟩
        have HR3 := Lib.hid hR3
        have HG3 := Lib.hid (HG2.out.trans hG3)
        clear hR3 hG3
        go_wp2
        refine bodyPost_ret (v := .tuple #[.string r, .string (nodeT width q x)]) (by simp [results, Try.results176, go_sem]) rfl ?_
        rw [HW.out]
        refine ⟨A3, c3, rfl, ?_, ?_⟩
        · rw [List.length_append, ← List.append_assoc]; exact HR3.out
        · rw [List.length_append]; exact HG3.out
      · have HW := Lib.hid (beW_hi (width := width) (root := root) (f := f) (pr := pr) (wh := wh) hn hlt)
        rw [beSt_hi hn hlt] at hkn
        obtain ⟨j, hj⟩ : ∃ j, j = beSt f (s - halfN n) (n - halfN n) false := ⟨_, rfl⟩
        rw [← hj] at hkn
        have hsz := beW_size hw hlf (f := f) (s := (s - halfN n)) (n := (n - halfN n)) (pr := prI pr) (wh := false) (by omega) (by omega) (by omega) (prI_are hpr) (by rw [prI_len (hk.trans hkn), hj])
        rw [← hj] at hsz
        have hxs := prL_size hpr (by omega)
        have hxg := prL_get (hk.trans hkn)
        obtain ⟨b, off, x0, rfl, hb, hks, hcl⟩ := hP.str (k := j) (by omega)
        obtain rfl : prL pr = x0 := Option.some.inj (hxg.symm.trans hks)
        have hbB : b < B0 := by
          obtain ⟨b', off', e, _, h3, _⟩ := hP (fun e => by rw [strs] at e; have := List.map_eq_nil_iff.1 e; rw [this] at hk; simp at hk; omega)
          cases e; exact h3
        have HI := Lib.hid (IH.out (s - halfN n) (n - halfN n) j cp m c (some ⟨b, off, none⟩) A (prI pr) l false w (by omega) (by omega) (by omega) (by omega) (prI_len (hk.trans hkn)) hj (by omega) (prI_are hpr) (by omega) hbase (hP.takeS _) hR)
        obtain ⟨hszs, hszb, hlen⟩ := hsz
        obtain ⟨hf, hhf⟩ : ∃ hf, hf = halfN n := ⟨_, rfl⟩
        rw [← hhf] at HW HH HI k1 k2 k3 hlt hszs hszb hlen
        obtain ⟨n2, hn2⟩ : ∃ n2, n2 = n - hf := ⟨_, rfl⟩
        obtain ⟨s2, hs2⟩ : ∃ s2, s2 = s - hf := ⟨_, rfl⟩
        have F1 : IntKind.i64.wrap ((n : Int) - hf) = n2 := by rw [IntKind.wrap_i64]; omega
        have F2 : IntKind.i64.wrap ((s : Int) - hf) = s2 := by rw [IntKind.wrap_i64]; omega
        have F3 : (n : Int) - hf = n2 := by omega
        have F4 : (s : Int) - hf = s2 := by omega
        rw [← hn2, ← hs2] at HW HI hszs hszb hlen
        generalize (beW width root f s2 n2 (prI pr) false).s = r at *
        generalize (beW width root f s2 n2 (prI pr) false).b = q at *
        generalize (beW width root f s2 n2 (prI pr) false).t = t at *
        have HP := Lib.hid hP
        have HR := Lib.hid hR
        generalize prL pr = x at *
        have E1 : IntKind.i64.wrap ((k : Int) - 1) = j := by rw [IntKind.wrap_i64]; omega
        have E2 : (k : Int) - 1 = j := by omega
        have E3 : (j : Int) < k := by omega
        have E4 : (j : Int) ≤ cp := by omega
        have E5 : (k : Int) ≤ 2000 := by omega
        have E6 : ((s : Int) == n) = false := beq_eq_false_iff_ne.2 (by omega)
        have HKJ := Lib.hid hkn
        have HN1 := Lib.hid (fun W A' c' m' l' hm' h1 h2 => fnode_c width p base m' c' A' l' x r W hw hxs hszs hm' h1 h2)
        have HN2 := Lib.hid (fun W A' c' m' l' hm' h1 h2 => fnode_c width p base m' c' A' l' x q W hw hxs hszb hm' h1 h2)
        have hlm : m + t.length + 1 ≤ 2000 := by omega
        clear hhf hP hR hkn hk hj hxg hks hxs hszs hszb hlen IH hw hlf hn2 hs2
        go_enter Try.func176, Try.ntmps176
        go_wp2_with fail
        refine (HH.out _).mono ?_
        rintro e w1 ⟨rfl, rfl⟩
        go_wp2_with fail
        refine HI.out.mono ?_
        rintro e w2 ⟨A2, c2, rfl, hR2, hG2⟩
        have HR2 := Lib.hid hR2
        have HG2 := Lib.hid hG2
        have hbe := hG2.toBelow HR.out.row hB1 hB2 (by omega)
        have hcl2 : w2.cell? ⟨b, off + j, none⟩ = some (.string x) := (hbe.cell (p := ⟨b, off + j, none⟩) hbB).trans hcl
        have hb2 : base ≤ w2.heap.size := Nat.le_trans hbase hG2.size
        clear hR2 hG2 hcl HI
        have hbb : b < w2.heap.size := by omega
        go_wp2_with fail
        refine (HN1.out _ _ _ _ _ (by omega) hb2 HR2.out).mono ?_
        rintro e w3 ⟨A3, c3, rfl, hR3, hG3⟩
        have HR3 := Lib.hid hR3
        have HG3 := Lib.hid (HG2.out.trans hG3)
        have hbe3 := HG3.out.toBelow HR.out.row hB1 hB2 (by omega)
        have hcl3 : w3.cell? ⟨b, off + j, none⟩ = some (.string x) := by
          have h1 := (hG3.toBelow HR2.out.row hB1 hB2 (by omega)).cell (p := ⟨b, off + j, none⟩) hbB
          exact h1.trans hcl2
        have hb3 : base ≤ w3.heap.size := Nat.le_trans hb2 hG3.size
        clear hR3 hG3 hcl2 HR2 HG2 HN1
        go_wp2_with fail
        refine (HN2.out _ _ _ _ _ (by omega) hb3 HR3.out).mono ?_
        rintro e w4 ⟨A4, c4, rfl, hR4, hG4⟩
        have HR4 := Lib.hid hR4
        have HG4 := Lib.hid (HG3.out.trans hG4)
        clear hR4 hG4
        go_wp2
        refine bodyPost_ret (v := .tuple #[.string (nodeT width x r), .string (nodeT width x q)]) (by simp [results, Try.results176, go_sem]) rfl ?_
        rw [HW.out]
        refine ⟨A4, c4, rfl, ?_, ?_⟩
        · rw [List.length_append, List.length_append, ← List.append_assoc, ← List.append_assoc]; exact HR4.out
        · rw [List.length_append, List.length_append]; exact HG4.out
    · obtain rfl : s = n := by omega
      have hk5 : k ≤ 512 := by rw [hkn]; exact Nat.le_trans (beSt_le h1 hsn h5) h5
      rcases wh with _ | _
      · have HW := Lib.hid (beW_end (width := width) (root := root) (f := f) (pr := pr) hn).2
        rw [beSt_end hn, if_neg (by decide)] at hkn
        have hxg := prL_get (k := 0) (hk.trans hkn)
        obtain ⟨b, off, x0, rfl, hb, hks, hcl⟩ := hP.str (k := 0) (by omega)
        obtain rfl : prL pr = x0 := Option.some.inj (hxg.symm.trans hks)
        rw [Nat.add_zero] at hcl
        generalize prL pr = x at *
        have HR := Lib.hid hR
        subst hkn
        clear hP hR hk IH hw hlf hxg hks
        go_enter Try.func176, Try.ntmps176
        go_wp2_with fail
        go_quiet (fail)
        go_wp2
        refine bodyPost_ret (v := .tuple #[.string x, .string x]) (by simp [results, Try.results176, go_sem]) rfl ?_
        rw [HW.out]
        refine ⟨A, c, rfl, ?_, GrowRel.of_below (below_drewN _ _) HR.out.typed.lt⟩
        rw [List.append_nil]
        exact HR.out.below (below_drewN _ _)
      · have HW := Lib.hid (beW_end (width := width) (root := root) (f := f) (pr := pr) hn).1
        rw [beSt_end hn, if_pos rfl] at hkn
        have HR := Lib.hid hR
        subst hkn
        clear hP hR hk IH hw hlf
        go_enter Try.func176, Try.ntmps176
        go_wp2
        refine bodyPost_ret (v := .tuple #[.string root, .string root]) (by simp [results, Try.results176, go_sem]) rfl ?_
        rw [HW.out]
        refine ⟨A, c, rfl, ?_, GrowRel.refl _ _ _ _⟩
        rw [List.append_nil]
        exact HR.out
end Go.Proofs.Ytojjjhbiccgjkaa
