/- A folder: the roots of proofs, and the texts that are hashed (the program's side). -/
import Derived.Test.YtojjjhbiccgjkaaSteps
import Derived.Test.YtojjjhbiccgjkaaWk
namespace Go.Proofs.Ytojjjhbiccgjkaa
set_option linter.unusedVariables false
set_option linter.unusedSimpArgs false
open Go.RowKit

set_option maxRecDepth 100000 in
set_option maxHeartbeats 4000000 in
theorem fnode_c (width : Int) (p base m c : Nat) (A : Option Addr) (l : List ByteArray) (a b : ByteArray) (w : World) (hw : inR width 1 32 = true) (ha : (a.size : Int) = width) (hb : (b.size : Int) = width) (hm : m ≤ 2000)
    (hbase : base ≤ w.heap.size) (hR : RngAt w base p 0 width (.slice A m c) m l) :
    Calls Try.prog 205 #[.pointer (some ⟨p, 0, none⟩), .string a, .string b] w fun e w' => ∃ A' c', e = .returned (.string (nodeT width a b)) ∧ RngAt w' base p 0 width (.slice A' (m + 1) c') (m + 1) (l ++ [a ++ b]) ∧
      GrowRel p 0 (.slice A m c) (.slice A' (m + 1) c') w w' := by
  obtain ⟨i0, hi0, hz0, hz1, hz2⟩ := info_parts info_string
  have HI := Lib.hid (And.intro hi0 (And.intro hz0 (And.intro hz1 hz2)))
  have hw2 := inR_true.1 hw
  have HND := Lib.hid (fun W => node_c width a b W (by omega) (by omega))
  generalize nodeT width a b = nd at *
  obtain ⟨s, hs1⟩ : ∃ s, s = a ++ b := ⟨_, rfl⟩
  have c1 := fun W : World => run_string_add_sum (P := Try.prog) W a b (by omega)
  have z1 : s.size ≤ 64 := by rw [hs1, ByteArray.size_append]; omega
  rw [← hs1] at c1
  have HS1 := Lib.hid hs1
  clear hs1
  have HSA : Hid (strs (l ++ [a ++ b]) = strs l ++ [.string s]) := Lib.hid (by rw [← HS1.out]; simp [strs])
  have HLS : Hid (l ++ [s] = l ++ [a ++ b]) := Lib.hid (by rw [← HS1.out])
  rw [← HLS.out] at HSA
  rw [← HLS.out]
  have HR := Lib.hid hR
  have hc0 := hR.c0
  have hc1 := hR.c1
  have hpl := hR.typed.lt
  clear hR hi0 hz0 hz1 hz2 hw HS1 HLS
  generalize l ++ [s] = L at *
  go_enter Try.func205, Try.ntmps205
  go_wp2_with (at_builtin; refine stop_here ?_)
  intro _
  refine wpList_append_lies _ rfl _ _ 39 rfl base 9 i0 _ 1 16 Try.underlying39 HI.out.1 HI.out.2.1 HI.out.2.2.1 HI.out.2.2.2 rfl (by omega) (.slice A m c) m (strs l) rfl (HR.out.row.alloc _) ⟨w.heap.size, 0, none⟩ 1 1 [.string s] rfl rfl (World.news_of_block (cs := #[.string s]) (t := 9) (fr := (0, 0)) (heap_alloc_new w _)) (by simp [Value.oneCell']) (by omega) (by unfold maxLen; omega) (by omega) (by simp; omega) (w.heap.size + 1) (by simp) ?_
  intro g1 cap1 w1 hown1 hg1 hat1 hlt1
  rw [← HSA.out] at hown1
  have hb0 : Below w.heap.size w (w.alloc (.cells #[.string s] 9)) := (Below.refl _ _).alloc (Nat.le_refl _) _
  obtain ⟨hmc, hmf, hmp, hms⟩ := rng_mid HR.out hb0 rfl hg1
  have HP1 := Lib.hid (rng_push HR.out hb0 rfl hown1 hg1 (by simpa using hat1))
  have hd1 := (hmc 1).trans hc1
  have hd0 := (hmc 0).trans hc0
  have hfr := hmf 1
  clear hown1 hg1 hat1 hlt1 hb0 hmc hmf hc0 hc1
  go_wp2_with fail
  refine calls_named (fun w2 hw2' => ?_)
  have HP2 : Hid (RngAt w2 base p 0 width (.slice (some ⟨g1, 0, none⟩) (m + 1) cap1) (m + 1) L ∧ GrowRel p 0 (.slice A m c) (.slice (some ⟨g1, 0, none⟩) (m + 1) cap1) w w2) := by rw [Hid, hw2']; exact HP1.out
  clear hw2' HP1 hd1 hd0
  refine (HND.out _).mono ?_
  rintro e w3 ⟨rfl, hb3⟩
  have HP3 := Lib.hid (And.intro (HP2.out.1.below hb3) (HP2.out.2.trans (GrowRel.of_below hb3 HP2.out.1.typed.lt)))
  clear hb3 HP2
  go_wp2
  go_ret
  exact ⟨_, _, rfl, HP3.out.1, HP3.out.2⟩

set_option maxRecDepth 100000 in
set_option maxHeartbeats 4000000 in
theorem froot_c (width : Int) (leaf : ByteArray) (p base B0 : Nat) (hw : inR width 1 32 = true) (hlf : (leaf.size : Int) = width) (hB1 : B0 ≤ p) (hB2 : B0 ≤ base) : ∀ (f n a k cp m c : Nat) (P A : Option Addr) (pr l : List ByteArray) (w : World),
    a < n → n ≤ 512 → n < f → pr.length = k → k = inSt f n a → k ≤ cp → areH width pr = true → m + k ≤ 2000 → base ≤ w.heap.size → Rd w 0 B0 P (strs pr) → RngAt w base p 0 width (.slice A m c) m l →
    Calls Try.prog 179 #[.pointer (some ⟨p, 0, none⟩), .int .i64 n, .int .i64 a, .string leaf, .slice P k cp] w fun e w' => ∃ A' c', e = .returned (.string (inW width leaf f n a pr).1) ∧
      RngAt w' base p 0 width (.slice A' (m + k) c') (m + k) (l ++ (inW width leaf f n a pr).2) ∧ GrowRel p 0 (.slice A m c) (.slice A' (m + k) c') w w'
  | 0, n, a, k, cp, m, c, P, A, pr, l, w, ha, h5, hf, hk, hkn, hkc, hpr, hmk, hbase, hP, hR => by omega
  | f + 1, n, a, k, cp, m, c, P, A, pr, l, w, ha, h5, hf, hk, hkn, hkc, hpr, hmk, hbase, hP, hR => by
    have IH := Lib.hid (froot_c width leaf p base B0 hw hlf hB1 hB2 f)
    rcases Nat.lt_or_ge 1 n with hn | hn
    · obtain ⟨k1, k2, k3⟩ := halfN_bd hn h5
      have HH := Lib.hid (fun W => implHalfOf_c n W hn h5)
      by_cases hlt : a < halfN n
      · have HW := Lib.hid (inW_lo (width := width) (leaf := leaf) (f := f) (pr := pr) hn hlt)
        rw [inSt_lo hn hlt] at hkn
        obtain ⟨j, hj⟩ : ∃ j, j = inSt f (halfN n) a := ⟨_, rfl⟩
        rw [← hj] at hkn
        have hsz := inW_size hw hlf (f := f) (n := (halfN n)) (a := a) (pr := prI pr) (by omega) (by omega) (prI_are hpr) (by rw [prI_len (hk.trans hkn), hj])
        have hxs := prL_size hpr (by omega)
        have hxg := prL_get (hk.trans hkn)
        obtain ⟨b, off, x0, rfl, hb, hks, hcl⟩ := hP.str (k := j) (by omega)
        obtain rfl : prL pr = x0 := Option.some.inj (hxg.symm.trans hks)
        have hbB : b < B0 := by
          obtain ⟨b', off', e, _, h3, _⟩ := hP (fun e => by rw [strs] at e; have := List.map_eq_nil_iff.1 e; rw [this] at hk; simp at hk; omega)
          cases e; exact h3
        have HI := Lib.hid (IH.out (halfN n) a j cp m c (some ⟨b, off, none⟩) A (prI pr) l w (by omega) (by omega) (by omega) (prI_len (hk.trans hkn)) hj (by omega) (prI_are hpr) (by omega) hbase (hP.takeS _) hR)
        have hlen := hsz.2
        rw [← hj] at hlen
        have hszr := hsz.1
        obtain ⟨hf, hhf⟩ : ∃ hf, hf = halfN n := ⟨_, rfl⟩
        rw [← hhf] at HW HH HI k1 k2 k3 hlt hszr hlen
        generalize (inW width leaf f hf a (prI pr)).1 = r at *
        generalize (inW width leaf f hf a (prI pr)).2 = t at *
        have HP := Lib.hid hP
        have HR := Lib.hid hR
        have HXS := Lib.hid hxs
        generalize prL pr = x at *
        have E1 : IntKind.i64.wrap ((k : Int) - 1) = j := by rw [IntKind.wrap_i64]; omega
        have E2 : (k : Int) - 1 = j := by omega
        have E3 : (j : Int) < k := by omega
        have E4 : (j : Int) ≤ cp := by omega
        have E5 : (k : Int) ≤ 2000 := by omega
        have HKJ := Lib.hid hkn
        have HN := Lib.hid (fun W A' c' l' h1 h2 => fnode_c width p base (m + j) c' A' l' r x W hw hszr hxs (by omega) h1 h2)
        clear hhf hP hR hkn hk hj hsz hxg hks hxs hszr hlen IH hw hlf
        go_enter Try.func179, Try.ntmps179
        go_wp2_with fail
        refine (HH.out _).mono ?_
        rintro e w1 ⟨rfl, rfl⟩
        go_wp2_with fail
        refine HI.out.mono ?_
        rintro e w2 ⟨A2, c2, rfl, hR2, hG2⟩
        have HR2 := Lib.hid hR2
        have HG2 := Lib.hid hG2
        have hbe := hG2.toBelow HR.out.row hB1 hB2 (by omega)
        have hcl2 : w2.cell? ⟨b, off + j, none⟩ = some (.string x) := (hbe.cell (p := ⟨b, off + j, none⟩) hbB).trans hcl
        have hb2 : base ≤ w2.heap.size := Nat.le_trans hbase hG2.size
        clear hR2 hG2 hbe hcl HI
        go_wp2_with fail
        refine (HN.out _ _ _ _ hb2 HR2.out).mono ?_
        rintro e w3 ⟨A3, c3, rfl, hR3, hG3⟩
        have HR3 := Lib.hid hR3
        have HG3 := Lib.hid (HG2.out.trans hG3)
        clear hR3 hG3
        go_wp2
        go_ret
        have hkj := HKJ.out
        subst hkj
        refine ⟨A3, c3, by rw [HW.out]; rfl, ?_, HG3.out⟩
        rw [HW.out, ← List.append_assoc]
        exact HR3.out
      · have HW := Lib.hid (inW_hi (width := width) (leaf := leaf) (f := f) (pr := pr) hn hlt)
        rw [inSt_hi hn hlt] at hkn
        obtain ⟨j, hj⟩ : ∃ j, j = inSt f (n - halfN n) (a - halfN n) := ⟨_, rfl⟩
        rw [← hj] at hkn
        have hsz := inW_size hw hlf (f := f) (n := (n - halfN n)) (a := (a - halfN n)) (pr := prI pr) (by omega) (by omega) (prI_are hpr) (by rw [prI_len (hk.trans hkn), hj])
        have hxs := prL_size hpr (by omega)
        have hxg := prL_get (hk.trans hkn)
        obtain ⟨b, off, x0, rfl, hb, hks, hcl⟩ := hP.str (k := j) (by omega)
        obtain rfl : prL pr = x0 := Option.some.inj (hxg.symm.trans hks)
        have hbB : b < B0 := by
          obtain ⟨b', off', e, _, h3, _⟩ := hP (fun e => by rw [strs] at e; have := List.map_eq_nil_iff.1 e; rw [this] at hk; simp at hk; omega)
          cases e; exact h3
        have HI := Lib.hid (IH.out (n - halfN n) (a - halfN n) j cp m c (some ⟨b, off, none⟩) A (prI pr) l w (by omega) (by omega) (by omega) (prI_len (hk.trans hkn)) hj (by omega) (prI_are hpr) (by omega) hbase (hP.takeS _) hR)
        have hlen := hsz.2
        rw [← hj] at hlen
        have hszr := hsz.1
        obtain ⟨hf, hhf⟩ : ∃ hf, hf = halfN n := ⟨_, rfl⟩
        rw [← hhf] at HW HH HI k1 k2 k3 hlt hszr hlen
        obtain ⟨n2, hn2⟩ : ∃ n2, n2 = n - hf := ⟨_, rfl⟩
        obtain ⟨a2, ha2⟩ : ∃ a2, a2 = a - hf := ⟨_, rfl⟩
        have F1 : IntKind.i64.wrap ((n : Int) - hf) = n2 := by rw [IntKind.wrap_i64]; omega
        have F2 : IntKind.i64.wrap ((a : Int) - hf) = a2 := by rw [IntKind.wrap_i64]; omega
        have F3 : (n : Int) - hf = n2 := by omega
        have F4 : (a : Int) - hf = a2 := by omega
        rw [← hn2, ← ha2] at HW HI hszr hlen
        generalize (inW width leaf f n2 a2 (prI pr)).1 = r at *
        generalize (inW width leaf f n2 a2 (prI pr)).2 = t at *
        have HP := Lib.hid hP
        have HR := Lib.hid hR
        have HXS := Lib.hid hxs
        generalize prL pr = x at *
        have E1 : IntKind.i64.wrap ((k : Int) - 1) = j := by rw [IntKind.wrap_i64]; omega
        have E2 : (k : Int) - 1 = j := by omega
        have E3 : (j : Int) < k := by omega
        have E4 : (j : Int) ≤ cp := by omega
        have E5 : (k : Int) ≤ 2000 := by omega
        have HKJ := Lib.hid hkn
        have HN := Lib.hid (fun W A' c' l' h1 h2 => fnode_c width p base (m + j) c' A' l' x r W hw hxs hszr (by omega) h1 h2)
        clear hhf hP hR hkn hk hj hsz hxg hks hxs hszr hlen IH hw hlf hn2 ha2
        go_enter Try.func179, Try.ntmps179
        go_wp2_with fail
        refine (HH.out _).mono ?_
        rintro e w1 ⟨rfl, rfl⟩
        go_wp2_with fail
        refine HI.out.mono ?_
        rintro e w2 ⟨A2, c2, rfl, hR2, hG2⟩
        have HR2 := Lib.hid hR2
        have HG2 := Lib.hid hG2
        have hbe := hG2.toBelow HR.out.row hB1 hB2 (by omega)
        have hcl2 : w2.cell? ⟨b, off + j, none⟩ = some (.string x) := (hbe.cell (p := ⟨b, off + j, none⟩) hbB).trans hcl
        have hb2 : base ≤ w2.heap.size := Nat.le_trans hbase hG2.size
        clear hR2 hG2 hbe hcl HI
        go_wp2_with fail
        refine (HN.out _ _ _ _ hb2 HR2.out).mono ?_
        rintro e w3 ⟨A3, c3, rfl, hR3, hG3⟩
        have HR3 := Lib.hid hR3
        have HG3 := Lib.hid (HG2.out.trans hG3)
        clear hR3 hG3
        go_wp2
        go_ret
        have hkj := HKJ.out
        subst hkj
        refine ⟨A3, c3, by rw [HW.out]; rfl, ?_, HG3.out⟩
        rw [HW.out, ← List.append_assoc]
        exact HR3.out
    · have HW := Lib.hid (inW_end (width := width) (leaf := leaf) (f := f) (a := a) (pr := pr) hn)
      rw [inSt_end hn] at hkn
      obtain rfl : n = 1 := by omega
      have HR := Lib.hid hR
      subst hkn
      clear hP hR hk IH hw hlf
      go_enter Try.func179, Try.ntmps179
      go_wp2
      go_ret
      refine ⟨A, c, by rw [HW.out]; rfl, ?_, GrowRel.refl _ _ _ _⟩
      rw [HW.out, List.append_nil]
      exact HR.out
end Go.Proofs.Ytojjjhbiccgjkaa
