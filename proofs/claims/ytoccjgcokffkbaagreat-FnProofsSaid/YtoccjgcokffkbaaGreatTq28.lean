/- Part 28 of the proof of FnProofs: lemmas and contracts. -/
import Derived.Test.YtoccjgcokffkbaaGreatTq11
import Derived.Test.YtoccjgcokffkbaaGreatTq10
import Derived.Test.YtoccjgcokffkbaaGreatTq2
import Derived.Test.YtoccjgcokffkbaaGreatTq6
import Derived.Test.YtoccjgcokffkbaaGreatTq27
import Derived.Test.YtoccjgcokffkbaaGreatTq15
import Derived.Test.YtoccjgcokffkbaaGreatTq25
import Derived.Test.YtoccjgcokffkbaaGreatTq9
import Derived.Shelf.Sort.Plain
import Derived.Shelf.Slices.CompactS
import Derived.Shelf.Slices.In.SortNone
import Derived.Lib.SlicesCompact
import Derived.Ground.NamesProg
import Derived.Lib.Agree
import Derived.Test.YtoccjgcokffkbaaGreatTq16
import Derived.Test.YtoccjgcokffkbaaGreatTq12
import Derived.Test.YtoccjgcokffkbaaGreatTq19
import Derived.Shelf.Abstract
namespace Go.Proofs.YtoccjgcokffkbaaGreat
set_option linter.unusedVariables false
set_option linter.unusedSimpArgs false
set_option maxHeartbeats 20000000
section
open Go.RowKit
theorem RowIn.based {S : Nat → Prop} {w : World} {e : TypeId} {size n lo : Nat} {v : Value} {xs : List Value} (h : RowIn S w e size v n xs) (hS : ∀ k, S k → lo ≤ k) : w.ownsRow lo e size v n xs :=
 ⟨h.row.1, h.row.2.elim .inl (fun ⟨g, cap, cur, h1, _, h3⟩ => .inr ⟨g, cap, cur, h1, hS g (h.at_ g (by rw [h1]; rfl)), h3⟩)⟩
def incFu (width : Int) : Nat → List ByteArray → Nat → List ByteArray
 | 0, _, _ => []
 | f + 1, l, k => if l.length ≤ 1 then [] else
   if k < halfN l.length then incFu width f (l.take (halfN l.length)) k ++ [rootFu width 513 (l.drop (halfN l.length))]
   else incFu width f (l.drop (halfN l.length)) (k - halfN l.length) ++ [rootFu width 513 (l.take (halfN l.length))]
theorem inc_end {width : Int} {f k : Nat} {l : List ByteArray} (h : l.length ≤ 1) : incFu width (f + 1) l k = [] := by rw [incFu, if_pos h]
theorem inc_lo {width : Int} {f k n : Nat} {l : List ByteArray} (hn : l.length = n) (h : 1 < n) (hk : k < halfN n) : incFu width (f + 1) l k = incFu width f (l.take (halfN n)) k ++ [rootFu width 513 (l.drop (halfN n))] := by
 rw [incFu, if_neg (by omega), hn, if_pos hk]
theorem inc_hi {width : Int} {f k n : Nat} {l : List ByteArray} (hn : l.length = n) (h : 1 < n) (hk : ¬ k < halfN n) : incFu width (f + 1) l k = incFu width f (l.drop (halfN n)) (k - halfN n) ++ [rootFu width 513 (l.take (halfN n))] := by
 rw [incFu, if_neg (by omega), hn, if_neg hk]
theorem inc_le {width : Int} : ∀ {f k n : Nat} {l : List ByteArray}, l.length = n → n ≤ 512 → (incFu width f l k).length ≤ n
 | 0, k, n, l, _, _ => by rw [incFu]; exact Nat.zero_le _
 | f + 1, k, n, l, hn, h5 => by
   rcases Nat.lt_or_ge 1 n with h | h
   ·obtain ⟨k1, k2, k3⟩ := halfN_bd (n := n) (by omega) h5
    by_cases hh : k < halfN n
    ·rw [inc_lo hn h hh]
     have := inc_le (width := width) (f := f) (k := k) (n := halfN n) (l := l.take (halfN n)) (by rw [List.length_take]; omega) (by omega)
     simp; omega
    ·rw [inc_hi hn h hh]
     have := inc_le (width := width) (f := f) (k := k - halfN n) (n := n - halfN n) (l := l.drop (halfN n)) (by rw [List.length_drop]; omega) (by omega)
     simp; omega
   ·rw [inc_end (by omega)]; exact Nat.zero_le _
set_option maxRecDepth 100000 in
theorem inclusion_c (width : Int) (hw : inR width 1 32 = true) : ∀ (f : Nat) (A : Option Addr) (c lo hi n k : Nat) (l : List ByteArray) (w : World), Rd w lo hi A (strs l) → l.length = n → n ≤ 512 → n < f → n ≤ c → areH width l = true → k < n →
  Calls Tryz.prog 68 #[.int .i64 width, .slice A n c, .int .i64 k] w fun e w' => ∃ A' c', e = .returned (.slice A' (incFu width f l k).length c') ∧
   w'.ownsRow w.heap.size 9 1 (.slice A' (incFu width f l k).length c') (incFu width f l k).length (strs (incFu width f l k)) ∧ Below w.heap.size w w'
 | 0, A, c, lo, hi, n, k, l, w, hr, hn, h5, hf, hc, ha, hkn => by omega
 | f + 1, A, c, lo, hi, n, k, l, w, hr, hn, h5, hf, hc, ha, hkn => by
   have IH := lH (inclusion_c width hw f)
   obtain ⟨b, off, s, rfl, hb, hks, hcl⟩ := hr.str (k := 0) (by omega)
   rcases Nat.lt_or_ge 1 n with hkl | hkl
   ·have HH := lH (fun W => implHalfOf_c n W (by omega) h5)
    obtain ⟨k1, k2, k3⟩ := halfN_bd (n := n) (by omega) h5
    by_cases hlt : k < halfN n
    ·skip
     have HW := lH (inc_lo (width := width) (f := f) hn hkl hlt)
     have hla : (l.take (halfN n)).length = halfN n := by rw [List.length_take]; omega
     have hlb : (l.drop (halfN n)).length = n - halfN n := by rw [List.length_drop, hn]
     have haa := areH_sub ha (fun s hs => List.mem_of_mem_take hs : ∀ s ∈ l.take (halfN n), s ∈ l)
     have hab := areH_sub ha (fun s hs => List.mem_of_mem_drop hs : ∀ s ∈ l.drop (halfN n), s ∈ l)
     have HRa : Hid (Rd w 0 w.heap.size (some ⟨b, off, none⟩) (strs (l.take (halfN n)))) := lH (hr.takeS _).base
     have HRb : Hid (Rd w 0 w.heap.size (some ⟨b, off + halfN n, none⟩) (strs (l.drop (halfN n)))) := lH (hr.dropS _).base
     obtain ⟨h, hh⟩ : ∃ h, h = halfN n := ⟨_, rfl⟩
     obtain ⟨m, hm⟩ : ∃ m, m = n - h := ⟨_, rfl⟩
     rw [← hh] at HW HH hla hlb haa hab HRa HRb k1 k2 k3 hlt
     rw [← hm] at hlb
     have hql := inc_le (width := width) (f := f) (k := k) hla (by omega)
     have HI := lH (fun W (r : Rd W 0 W.heap.size (some ⟨b, off, none⟩) (strs (l.take h))) => IH.out (some ⟨b, off, none⟩) c 0 W.heap.size h k (l.take h) W r hla (by omega) (by omega) (by omega) haa (by omega))
     have HT := lH (fun W (r : Rd W 0 W.heap.size (some ⟨b, off + h, none⟩) (strs (l.drop h))) => rootOf_c width hw 513 (some ⟨b, off + h, none⟩) (c - h) 0 W.heap.size m (l.drop h) W r hlb (by omega) (by omega) (by omega) hab)
     have HR1 := HRa
     have HR2 := HRb
     generalize incFu width f (l.take h) k = t at *
     generalize rootFu width 513 (l.drop h) = r at *
     obtain ⟨q, hq⟩ : ∃ q, q = t.length := ⟨_, rfl⟩
     rw [← hq] at HI hql
     have HQ : Hid ((t ++ [r]).length = q + 1) := lH (by rw [hq, List.length_append]; rfl)
     have hq5 : q ≤ 512 := by omega
     have E1 : (h : Int) ≤ (n : Int) := by omega
     have E2 : (h : Int) ≤ (c : Int) := by omega
     have E3 : (n : Int) ≤ (c : Int) := by omega
     have E4 : ¬ (h : Int) = c := by omega
     have E5 : ¬ h = c := by omega
     have E9 : ¬ c = h := by omega
     have E10 : ¬ (c : Int) = h := by omega
     have E6 : (n : Int) - h = m := by omega
     have E7 : n - h = m := by omega
     have E8 : ((n : Int) == 1) = false := beq_eq_false_iff_ne.2 (by omega)
     have E11 : ¬ (n : Int) ≤ 1 := by omega
     clear hq hh hm HRa HRb hr hn ha hks hcl hla hlb haa hab IH hw
     have HB : Hid (Below w.heap.size w w) := Below.refl _ _
     go_enter Tryz.func68, Tryz.ntmps68
     go_wp2_with fail
     refine (HH.out _).mono ?_
     rintro e w1_ ⟨rfl, rfl⟩
     go_wp2_with fail
     refine wp_named (fun w2 hw => ?_)
     have hz2 : w.heap.size + 0 ≤ w2.heap.size := by rw [hw]; first | omega | simp [World.setCell] <;> omega
     have hbn : Below w.heap.size w w2 := by rw [hw]; exact (by repeat with_reducible first | exact bR _ | apply bA | apply bD)
     replace HB := lH (below_then HB.out hbn HB.out.size)
     clear hbn
     clear hw
     obtain ⟨F, HF⟩ : ∃ F : Facts, Hid (F = fun iq xq tqs dsq uq => match iq with
      | 0 => xq.v = .int .i64 width
      | 1 => xq.v = .slice (some ⟨b, off, none⟩) n c
      | 2 => xq.v = .int .i64 (h : Nat)
      | 3 => xq.v = .slice (some ⟨b, off, none⟩) h c
      | 4 => xq.v = .int .i64 (k : Nat)
      | 5 => ∃ (A1 : Option Addr) (c1 : Nat), xq.v = .slice A1 q c1 ∧ (RowIn (inG xq []) uq 9 1 (.slice A1 q c1) q (strs t))
      | 6 => xq.v = .int .i64 width
      | 7 => xq.v = .slice (some ⟨b, off, none⟩) n c
      | 8 => xq.v = .int .i64 (h : Nat)
      | 9 => xq.v = .slice (some ⟨b, off + h, none⟩) m (c - h)
      | 10 => xq.v = .string r
      | 11 => xq.v = .slice (some ⟨xq.s, 0, none⟩) 1 1 ∧ xq.s < xq.e ∧ NewBox uq xq.s (strs [r])
      | 12 => (match tqs, dsq with | [tq0], [] => ∃ (A3 : Option Addr) (c3 : Nat), xq.v = .slice A3 (q + 1) c3 ∧ RowIn (inG xq [tq0]) uq 9 1 (.slice A3 (q + 1) c3) ((q + 1)) ((strs t ++ strs [r])) | _, _ => False)
      | 13 => (match tqs, dsq with | [], [yq0] => ∃ (A3 : Option Addr) (c3 : Nat), yq0.v = .slice A3 (q + 1) c3 ∧ xq.v = .slice A3 (q + 1) c3 | _, _ => False)
      | _ => False) := ⟨_, rfl⟩
     refine wp_region_facts [[], [], [], [], [], [], [], [], [], [], [], [], [], [12]] [[], [], [], [], [], [], [], [], [], [], [], [], [5], []] [some 18, some 19, some 20, some 21, some 22, some 23, some 24, some 25, some 26, some 27, some 28, some 29, some 30, some 6] none 0 0 (.inl rfl) F (by kernel_rfl) (by kernel_rfl) (by kernel_rfl) ?_ ⟨?_, ?_, ?_, ?_, ?_, ?_, ?_, ?_, ?_, ?_, ?_, ?_, ?_, ?_, trivial⟩ ?_
     ·rw [HF.out]; intro iq xq tqs dsq uq u' hi hf hs hW hx hbk
      have kx : ∀ b, xq.s ≤ b → b < xq.e → u'.heap[b]? = uq.heap[b]? := fun b h1 h2 => hbk b (.inr (.inl ⟨h1, h2⟩))
      have kt : ∀ t ∈ tqs, ∀ b, t.s ≤ b → b < t.e → u'.heap[b]? = uq.heap[b]? := fun t ht b h1 h2 => hbk b (.inr (.inr ⟨t, ht, h1, h2⟩))
      match iq with
      | 0 => exact hf
      | 1 => exact hf
      | 2 => exact hf
      | 3 => exact hf
      | 4 => exact hf
      | 5 => obtain ⟨A1, c1, hv, p0⟩ := hf; exact ⟨A1, c1, hv, p0.keep (fun k hk => hk.elim (fun h => kx k h.1 h.2) (fun ⟨t, ht, _⟩ => by cases ht))⟩
      | 6 => exact hf
      | 7 => exact hf
      | 8 => exact hf
      | 9 => exact hf
      | 10 => exact hf
      | 11 => obtain ⟨h1, h2, hb⟩ := hf; exact ⟨h1, h2, hb.keep hs (kx _ (Nat.le_refl _) h2)⟩
      | 12 => match tqs, dsq, hf with | [tq0], [], hf => obtain ⟨A3, c3, hv, p0⟩ := hf; exact ⟨A3, c3, hv, p0.keep (fun k hk => hk.elim (fun h => kx k h.1 h.2) (fun ⟨t, ht, h⟩ => kt t ht k h.1 h.2))⟩
      | 13 => exact hf
     ·intro gh ρ u hc hf1 hg1 hd h0 hb he ha hF
      have r0 : ρ (.tmp 0) = .int .i64 width := (h0 0 (by decide +kernel)).trans rfl
      clear  hd h0 he ha hF
      go_simp
      rw [HF.out]
      exact ⟨OnlyL.refl _ _, rfl⟩
     ·intro gh ρ u hc hf1 hg1 hd h0 hb he ha hF
      have r1 : ρ (.tmp 1) = .slice (some ⟨b, off, none⟩) n c := (h0 1 (by decide +kernel)).trans rfl
      clear  hd h0 he ha hF
      go_simp
      rw [HF.out]
      exact ⟨OnlyL.refl _ _, rfl⟩
     ·intro gh ρ u hc hf1 hg1 hd h0 hb he ha hF
      have r8 : ρ (.tmp 8) = .int .i64 (h : Nat) := (h0 8 (by decide +kernel)).trans rfl
      clear  hd h0 he ha hF
      go_simp
      rw [HF.out]
      exact ⟨OnlyL.refl _ _, rfl⟩
     ·intro gh ρ u hc hf1 hg1 hd h0 hb he ha hF
      have r19 : ρ (.tmp 19) = .slice (some ⟨b, off, none⟩) n c := by have h := hF 1 (by decide +kernel) (by decide +kernel); rw [HF.out] at h; exact (hd 1 (by decide +kernel) 19 (by kernel_rfl)).trans h
      have r20 : ρ (.tmp 20) = .int .i64 (h : Nat) := by have h := hF 2 (by decide +kernel) (by decide +kernel); rw [HF.out] at h; exact (hd 2 (by decide +kernel) 20 (by kernel_rfl)).trans h
      clear  hd h0 he ha hF
      go_simp
      rw [HF.out]
      exact ⟨OnlyL.refl _ _, rfl⟩
     ·intro gh ρ u hc hf1 hg1 hd h0 hb he ha hF
      have r2 : ρ (.tmp 2) = .int .i64 (k : Nat) := (h0 2 (by decide +kernel)).trans rfl
      clear  hd h0 he ha hF
      go_simp
      rw [HF.out]
      exact ⟨OnlyL.refl _ _, rfl⟩
     ·intro gh ρ u hc hf1 hg1 hd h0 hb he ha hF
      replace hb : Below w2.heap.size w2 u := hb.drew.below (by decide +kernel)
      have hbz : w2.heap.size ≤ u.heap.size := hb.size
      have r18 : ρ (.tmp 18) = .int .i64 width := by have h := hF 0 (by decide +kernel) (by decide +kernel); rw [HF.out] at h; exact (hd 0 (by decide +kernel) 18 (by kernel_rfl)).trans h
      have r21 : ρ (.tmp 21) = .slice (some ⟨b, off, none⟩) h c := by have h := hF 3 (by decide +kernel) (by decide +kernel); rw [HF.out] at h; exact (hd 3 (by decide +kernel) 21 (by kernel_rfl)).trans h
      have r22 : ρ (.tmp 22) = .int .i64 (k : Nat) := by have h := hF 4 (by decide +kernel) (by decide +kernel); rw [HF.out] at h; exact (hd 4 (by decide +kernel) 22 (by kernel_rfl)).trans h
      clear  hd h0 he ha hF
      go_simp
      refine (HI.out _ (HR1.out.below (below_then HB.out hb HB.out.size)).base).mono ?_
      rintro e u1 ⟨A1, c1, rfl, ho, hb1⟩
      rw [HF.out]
      exact ⟨_, rfl, OnlyL.of_below hb1, A1, c1, rfl, RowIn.of_row ho (fun k h1 h2 => .inl ⟨h1, h2⟩)⟩
     ·intro gh ρ u hc hf1 hg1 hd h0 hb he ha hF
      have r0 : ρ (.tmp 0) = .int .i64 width := (h0 0 (by decide +kernel)).trans rfl
      clear  hd h0 he ha hF
      go_simp
      rw [HF.out]
      exact ⟨OnlyL.refl _ _, rfl⟩
     ·intro gh ρ u hc hf1 hg1 hd h0 hb he ha hF
      have r1 : ρ (.tmp 1) = .slice (some ⟨b, off, none⟩) n c := (h0 1 (by decide +kernel)).trans rfl
      clear  hd h0 he ha hF
      go_simp
      rw [HF.out]
      exact ⟨OnlyL.refl _ _, rfl⟩
     ·intro gh ρ u hc hf1 hg1 hd h0 hb he ha hF
      have r8 : ρ (.tmp 8) = .int .i64 (h : Nat) := (h0 8 (by decide +kernel)).trans rfl
      clear  hd h0 he ha hF
      go_simp
      rw [HF.out]
      exact ⟨OnlyL.refl _ _, rfl⟩
     ·intro gh ρ u hc hf1 hg1 hd h0 hb he ha hF
      have r25 : ρ (.tmp 25) = .slice (some ⟨b, off, none⟩) n c := by have h := hF 7 (by decide +kernel) (by decide +kernel); rw [HF.out] at h; exact (hd 7 (by decide +kernel) 25 (by kernel_rfl)).trans h
      have r26 : ρ (.tmp 26) = .int .i64 (h : Nat) := by have h := hF 8 (by decide +kernel) (by decide +kernel); rw [HF.out] at h; exact (hd 8 (by decide +kernel) 26 (by kernel_rfl)).trans h
      clear  hd h0 he ha hF
      go_simp
      rw [HF.out]
      exact ⟨OnlyL.refl _ _, rfl⟩
     ·intro gh ρ u hc hf1 hg1 hd h0 hb he ha hF
      replace hb : Below w2.heap.size w2 u := hb.drew.below (by decide +kernel)
      have hbz : w2.heap.size ≤ u.heap.size := hb.size
      have r24 : ρ (.tmp 24) = .int .i64 width := by have h := hF 6 (by decide +kernel) (by decide +kernel); rw [HF.out] at h; exact (hd 6 (by decide +kernel) 24 (by kernel_rfl)).trans h
      have r27 : ρ (.tmp 27) = .slice (some ⟨b, off + h, none⟩) m (c - h) := by have h := hF 9 (by decide +kernel) (by decide +kernel); rw [HF.out] at h; exact (hd 9 (by decide +kernel) 27 (by kernel_rfl)).trans h
      clear  hd h0 he ha hF
      go_simp
      refine (HT.out _ (HR2.out.below (below_then HB.out hb HB.out.size)).base).mono ?_
      rintro e u1 ⟨rfl, hb1⟩
      rw [HF.out]
      exact ⟨_, rfl, OnlyL.of_below hb1, rfl⟩
     ·intro gh ρ u hc hf1 hg1 hd h0 hb he ha hF
      replace hb : Below w2.heap.size w2 u := hb.drew.below (by decide +kernel)
      have hbz : w2.heap.size ≤ u.heap.size := hb.size
      have r28 : ρ (.tmp 28) = .string r := by have h := hF 10 (by decide +kernel) (by decide +kernel); rw [HF.out] at h; exact (hd 10 (by decide +kernel) 28 (by kernel_rfl)).trans h
      clear  hd h0 he ha hF
      go_simp
      rw [HF.out]
      exact ⟨OnlyL.of_below ((Below.refl _ _).alloc (Nat.le_refl _) _), rfl, by simp, NewBox.new _ _ _⟩
     ·intro gh ρ u hc hf1 hg1 hd h0 hb he ha hF
      replace hb : Below w2.heap.size w2 u := hb.drew.below (by decide +kernel)
      have hbz : w2.heap.size ≤ u.heap.size := hb.size
      have f5 : ∃ (A1 : Option Addr) (c1 : Nat), (gh 5).v = .slice A1 q c1 ∧ (RowIn (inG (gh 5) []) u 9 1 (.slice A1 q c1) q (strs t)) := by have h := hF 5 (by decide +kernel) (by decide +kernel); rw [HF.out] at h; exact h
      obtain ⟨A1, c1, hv5, g5_0⟩ := f5
      have hrow5 := g5_0
      have r23 : ρ (.tmp 23) = .slice A1 q c1 := (hd 5 (by decide +kernel) 23 (by kernel_rfl)).trans hv5
      have f11 : (gh 11).v = .slice (some ⟨(gh 11).s, 0, none⟩) 1 1 ∧ (gh 11).s < (gh 11).e ∧ NewBox u (gh 11).s (strs [r]) := by have h := hF 11 (by decide +kernel) (by decide +kernel); rw [HF.out] at h; exact h
      obtain ⟨hv11, hlt11, hnb11⟩ := f11
      have r29 : ρ (.tmp 29) = .slice (some ⟨(gh 11).s, 0, none⟩) 1 1 := (hd 11 (by decide +kernel) 29 (by kernel_rfl)).trans hv11
      clear hv5 hv11 hd h0 he ha hF
      refine gapp1Str _ _ rfl _ (q) (strs t) r23 hrow5 _ r r29 hnb11 (by omega) ?_
      intro A' c' u' hrow hlt hg
      rw [HF.out]
      have hS : ∀ k, inG (gh 5) [] k → ∃ z ∈ ([5] : List Nat), (gh z).s ≤ k ∧ k < (gh z).e := by
       rintro k (h | ⟨t, ht, h⟩)
       ·exact ⟨5, by decide, h⟩
       ·cases ht
      refine ⟨⟨hg.os, hg.tape, hg.output, hg.size, fun k hk hd' _ => hg.block k hk (fun e => ?_)⟩, A', c', rfl, ?_⟩
      ·obtain ⟨z, hz, h1, h2⟩ := hS k (hrow5.at_ k e.symm); have := hd' (gh z) (List.mem_map.2 ⟨z, hz, rfl⟩); omega
      ·exact RowIn.widen hrow (fun k hk => .inr (let ⟨z, hz, h⟩ := hS k hk; ⟨gh z, List.mem_map.2 ⟨z, hz, rfl⟩, h⟩)) (fun e => .inl ⟨Nat.le_refl _, hlt _ e⟩)
     ·intro gh ρ u hc hf1 hg1 hd h0 hb he ha hF
      have f12 : ∃ (A3 : Option Addr) (c3 : Nat), (gh 12).v = .slice A3 (q + 1) c3 ∧ RowIn (inG (gh 12) [(gh 5)]) u 9 1 (.slice A3 (q + 1) c3) ((q + 1)) ((strs t ++ strs [r])) := by have h := hF 12 (by decide +kernel) (by decide +kernel); rw [HF.out] at h; exact h
      obtain ⟨A3, c3, hv12, hrow12⟩ := f12
      have hrt12 := hv12
      have r30 : ρ (.tmp 30) = .slice A3 (q + 1) c3 := (hd 12 (by decide +kernel) 30 (by kernel_rfl)).trans hv12
      have HRT12 := lH hrt12
      clear hv12 hrt12 hd h0 he ha hF
      go_simp
      rw [HF.out]
      exact ⟨OnlyL.refl _ _, A3, c3, HRT12.out, rfl⟩
     intro gh w3 hB hE hA hF
     replace hB : Below w2.heap.size w2 w3 := hB.below rfl
     have f0 : (gh 0).v = .int .i64 width := by have h := hF 0 (by decide +kernel) (by decide +kernel); rw [HF.out] at h; exact h
     have f1 : (gh 1).v = .slice (some ⟨b, off, none⟩) n c := by have h := hF 1 (by decide +kernel) (by decide +kernel); rw [HF.out] at h; exact h
     have f2 : (gh 2).v = .int .i64 (h : Nat) := by have h := hF 2 (by decide +kernel) (by decide +kernel); rw [HF.out] at h; exact h
     have f3 : (gh 3).v = .slice (some ⟨b, off, none⟩) h c := by have h := hF 3 (by decide +kernel) (by decide +kernel); rw [HF.out] at h; exact h
     have f4 : (gh 4).v = .int .i64 (k : Nat) := by have h := hF 4 (by decide +kernel) (by decide +kernel); rw [HF.out] at h; exact h
     have f6 : (gh 6).v = .int .i64 width := by have h := hF 6 (by decide +kernel) (by decide +kernel); rw [HF.out] at h; exact h
     have f7 : (gh 7).v = .slice (some ⟨b, off, none⟩) n c := by have h := hF 7 (by decide +kernel) (by decide +kernel); rw [HF.out] at h; exact h
     have f8 : (gh 8).v = .int .i64 (h : Nat) := by have h := hF 8 (by decide +kernel) (by decide +kernel); rw [HF.out] at h; exact h
     have f9 : (gh 9).v = .slice (some ⟨b, off + h, none⟩) m (c - h) := by have h := hF 9 (by decide +kernel) (by decide +kernel); rw [HF.out] at h; exact h
     have f10 : (gh 10).v = .string r := by have h := hF 10 (by decide +kernel) (by decide +kernel); rw [HF.out] at h; exact h
     have f11 : (gh 11).v = .slice (some ⟨(gh 11).s, 0, none⟩) 1 1 ∧ (gh 11).s < (gh 11).e ∧ NewBox w3 (gh 11).s (strs [r]) := by have h := hF 11 (by decide +kernel) (by decide +kernel); rw [HF.out] at h; exact h
     have f12 : ∃ (A3 : Option Addr) (c3 : Nat), (gh 12).v = .slice A3 (q + 1) c3 ∧ RowIn (inG (gh 12) [(gh 5)]) w3 9 1 (.slice A3 (q + 1) c3) ((q + 1)) ((strs t ++ strs [r])) := by have h := hF 12 (by decide +kernel) (by decide +kernel); rw [HF.out] at h; exact h
     have f13 : ∃ (A3 : Option Addr) (c3 : Nat), (gh 12).v = .slice A3 (q + 1) c3 ∧ (gh 13).v = .slice A3 (q + 1) c3 := by have h := hF 13 (by decide +kernel) (by decide +kernel); rw [HF.out] at h; exact h
     have hv10 := f10
     obtain ⟨A3, c3, hv12, hrow12⟩ := f12
     have hv0 := f0
     have hv1 := f1
     have hv2 := f2
     have hv3 := f3
     have hv4 := f4
     have hv6 := f6
     have hv7 := f7
     have hv8 := f8
     have hv9 := f9
     obtain ⟨hv11, -⟩ := f11
     obtain ⟨A3_13, c3_13, hu12, hv13⟩ := f13
     replace hu12 := hv12.symm.trans hu12
     simp at hu12
     try simp only [and_assoc] at hu12
     obtain ⟨rfl, rfl⟩ := hu12
     obtain ⟨hs5, hse5, he5⟩ := hE 5 (by decide +kernel)
     obtain ⟨hs12, hse12, he12⟩ := hE 12 (by decide +kernel)
     have hdj3_5_12 := hA 5 (by decide +kernel) 12 (by decide +kernel) (by decide)
     change w2.heap.size ≤ _ at hs5 hs12
     have hS : ∀ k, inG (gh 12) [gh 5] k → w2.heap.size ≤ k ∧ k < w3.heap.size := by
      rintro k (h | ⟨t, ht, h⟩)
      ·omega
      ·simp only [List.mem_cons, List.not_mem_nil, or_false] at ht
       rcases ht with rfl <;> omega
     have hrwr := hrow12.row
     obtain ⟨hrcr, hrnr, hror⟩ := hrow12.own hS (Nat.le_refl _)
     have hrbr := hrow12.based (fun k h => (hS k h).1)
     clear hS hrow12
     clear hE hA hF
     generalize (gh 5).v = vq5 at *
     simp only [putDs, Nat.reduceAdd, hv0, hv1, hv2, hv3, hv4, hv6, hv7, hv8, hv9, hv10, hv11, hv12, hv13]
     clear hv0 hv1 hv2 hv3 hv4 hv6 hv7 hv8 hv9 hv10 hv11 hv12 hv13
     generalize (gh 5).s = s3_5 at *
     generalize (gh 5).e = e3_5 at *
     generalize (gh 12).s = s3_12 at *
     generalize (gh 12).e = e3_12 at *
     clear HF
     have hb := hB
     clear hB
     have hzw3 : w2.heap.size ≤ w3.heap.size := hb.size
     have hzzw3 : w.heap.size ≤ w3.heap.size := by omega
     replace HB := lH (below_then HB.out hb HB.out.size)
     clear hb
     have HRB := lH hrbr
     clear hrbr hrnr hrwr hrcr hror
     go_wp2
     refine bodyPost_ret (v := .slice A3 (q + 1) c3) (by simp [results, Tryz.results68, go_sem]) rfl ?_
     rw [HW.out]
     refine ⟨A3, c3, by rw [HQ.out], ?_, HB.out⟩
     rw [HQ.out, strs_app]
     exact row_mono HRB.out (by omega)
    ·skip
     have HW := lH (inc_hi (width := width) (f := f) hn hkl hlt)
     have hla : (l.take (halfN n)).length = halfN n := by rw [List.length_take]; omega
     have hlb : (l.drop (halfN n)).length = n - halfN n := by rw [List.length_drop, hn]
     have haa := areH_sub ha (fun s hs => List.mem_of_mem_take hs : ∀ s ∈ l.take (halfN n), s ∈ l)
     have hab := areH_sub ha (fun s hs => List.mem_of_mem_drop hs : ∀ s ∈ l.drop (halfN n), s ∈ l)
     have HRa : Hid (Rd w 0 w.heap.size (some ⟨b, off, none⟩) (strs (l.take (halfN n)))) := lH (hr.takeS _).base
     have HRb : Hid (Rd w 0 w.heap.size (some ⟨b, off + halfN n, none⟩) (strs (l.drop (halfN n)))) := lH (hr.dropS _).base
     obtain ⟨h, hh⟩ : ∃ h, h = halfN n := ⟨_, rfl⟩
     obtain ⟨m, hm⟩ : ∃ m, m = n - h := ⟨_, rfl⟩
     rw [← hh] at HW HH hla hlb haa hab HRa HRb k1 k2 k3 hlt
     rw [← hm] at hlb
     obtain ⟨kz, hk2⟩ : ∃ kz, kz = k - h := ⟨_, rfl⟩
     rw [← hk2] at HW
     have hql := inc_le (width := width) (f := f) (k := kz) hlb (by omega)
     have HI := lH (fun W (r : Rd W 0 W.heap.size (some ⟨b, off + h, none⟩) (strs (l.drop h))) => IH.out (some ⟨b, off + h, none⟩) (c - h) 0 W.heap.size m kz (l.drop h) W r hlb (by omega) (by omega) (by omega) hab (by omega))
     have HT := lH (fun W (r : Rd W 0 W.heap.size (some ⟨b, off, none⟩) (strs (l.take h))) => rootOf_c width hw 513 (some ⟨b, off, none⟩) c 0 W.heap.size h (l.take h) W r hla (by omega) (by omega) (by omega) haa)
     have HR1 := HRb
     have HR2 := HRa
     generalize incFu width f (l.drop h) kz = t at *
     generalize rootFu width 513 (l.take h) = r at *
     have F1 : IntKind.i64.wrap ((k : Int) - h) = kz := by rw [IntKind.wrap_i64]; omega
     have F2 : (k : Int) - h = kz := by omega
     have F3 : IntKind.i64.wrap (kz : Int) = kz := by rw [IntKind.wrap_i64]; omega
     obtain ⟨q, hq⟩ : ∃ q, q = t.length := ⟨_, rfl⟩
     rw [← hq] at HI hql
     have HQ : Hid ((t ++ [r]).length = q + 1) := lH (by rw [hq, List.length_append]; rfl)
     have hq5 : q ≤ 512 := by omega
     have E1 : (h : Int) ≤ (n : Int) := by omega
     have E2 : (h : Int) ≤ (c : Int) := by omega
     have E3 : (n : Int) ≤ (c : Int) := by omega
     have E4 : ¬ (h : Int) = c := by omega
     have E5 : ¬ h = c := by omega
     have E9 : ¬ c = h := by omega
     have E10 : ¬ (c : Int) = h := by omega
     have E6 : (n : Int) - h = m := by omega
     have E7 : n - h = m := by omega
     have E8 : ((n : Int) == 1) = false := beq_eq_false_iff_ne.2 (by omega)
     have E11 : ¬ (n : Int) ≤ 1 := by omega
     clear hq hh hm HRa HRb hr hn ha hks hcl hla hlb haa hab IH hw hk2
     have HB : Hid (Below w.heap.size w w) := Below.refl _ _
     go_enter Tryz.func68, Tryz.ntmps68
     go_wp2_with fail
     refine (HH.out _).mono ?_
     rintro e w1_ ⟨rfl, rfl⟩
     go_wp2_with fail
     refine wp_named (fun w2 hw => ?_)
     have hz2 : w.heap.size + 0 ≤ w2.heap.size := by rw [hw]; first | omega | simp [World.setCell] <;> omega
     have hbn : Below w.heap.size w w2 := by rw [hw]; exact (by repeat with_reducible first | exact bR _ | apply bA | apply bD)
     replace HB := lH (below_then HB.out hbn HB.out.size)
     clear hbn
     clear hw
     obtain ⟨F, HF⟩ : ∃ F : Facts, Hid (F = fun iq xq tqs dsq uq => match iq with
      | 0 => xq.v = .int .i64 width
      | 1 => xq.v = .slice (some ⟨b, off, none⟩) n c
      | 2 => xq.v = .int .i64 (h : Nat)
      | 3 => xq.v = .slice (some ⟨b, off + h, none⟩) m (c - h)
      | 4 => xq.v = .int .i64 (k : Nat)
      | 5 => xq.v = .int .i64 (h : Nat)
      | 6 => xq.v = .int .i64 (kz : Nat)
      | 7 => ∃ (A1 : Option Addr) (c1 : Nat), xq.v = .slice A1 q c1 ∧ (RowIn (inG xq []) uq 9 1 (.slice A1 q c1) q (strs t))
      | 8 => xq.v = .int .i64 width
      | 9 => xq.v = .slice (some ⟨b, off, none⟩) n c
      | 10 => xq.v = .int .i64 (h : Nat)
      | 11 => xq.v = .slice (some ⟨b, off, none⟩) h c
      | 12 => xq.v = .string r
      | 13 => xq.v = .slice (some ⟨xq.s, 0, none⟩) 1 1 ∧ xq.s < xq.e ∧ NewBox uq xq.s (strs [r])
      | 14 => (match tqs, dsq with | [tq0], [] => ∃ (A3 : Option Addr) (c3 : Nat), xq.v = .slice A3 (q + 1) c3 ∧ RowIn (inG xq [tq0]) uq 9 1 (.slice A3 (q + 1) c3) ((q + 1)) ((strs t ++ strs [r])) | _, _ => False)
      | 15 => (match tqs, dsq with | [], [yq0] => ∃ (A3 : Option Addr) (c3 : Nat), yq0.v = .slice A3 (q + 1) c3 ∧ xq.v = .slice A3 (q + 1) c3 | _, _ => False)
      | _ => False) := ⟨_, rfl⟩
     refine wp_region_facts [[], [], [], [], [], [], [], [], [], [], [], [], [], [], [], [14]] [[], [], [], [], [], [], [], [], [], [], [], [], [], [], [7], []] [some 31, some 32, some 33, some 34, some 35, some 36, some 37, some 38, some 39, some 40, some 41, some 42, some 43, some 44, some 45, some 6] none 0 0 (.inl rfl) F (by kernel_rfl) (by kernel_rfl) (by kernel_rfl) ?_ ⟨?_, ?_, ?_, ?_, ?_, ?_, ?_, ?_, ?_, ?_, ?_, ?_, ?_, ?_, ?_, ?_, trivial⟩ ?_
     ·rw [HF.out]; intro iq xq tqs dsq uq u' hi hf hs hW hx hbk
      have kx : ∀ b, xq.s ≤ b → b < xq.e → u'.heap[b]? = uq.heap[b]? := fun b h1 h2 => hbk b (.inr (.inl ⟨h1, h2⟩))
      have kt : ∀ t ∈ tqs, ∀ b, t.s ≤ b → b < t.e → u'.heap[b]? = uq.heap[b]? := fun t ht b h1 h2 => hbk b (.inr (.inr ⟨t, ht, h1, h2⟩))
      match iq with
      | 0 => exact hf
      | 1 => exact hf
      | 2 => exact hf
      | 3 => exact hf
      | 4 => exact hf
      | 5 => exact hf
      | 6 => exact hf
      | 7 => obtain ⟨A1, c1, hv, p0⟩ := hf; exact ⟨A1, c1, hv, p0.keep (fun k hk => hk.elim (fun h => kx k h.1 h.2) (fun ⟨t, ht, _⟩ => by cases ht))⟩
      | 8 => exact hf
      | 9 => exact hf
      | 10 => exact hf
      | 11 => exact hf
      | 12 => exact hf
      | 13 => obtain ⟨h1, h2, hb⟩ := hf; exact ⟨h1, h2, hb.keep hs (kx _ (Nat.le_refl _) h2)⟩
      | 14 => match tqs, dsq, hf with | [tq0], [], hf => obtain ⟨A3, c3, hv, p0⟩ := hf; exact ⟨A3, c3, hv, p0.keep (fun k hk => hk.elim (fun h => kx k h.1 h.2) (fun ⟨t, ht, h⟩ => kt t ht k h.1 h.2))⟩
      | 15 => exact hf
     ·intro gh ρ u hc hf1 hg1 hd h0 hb he ha hF
      have r0 : ρ (.tmp 0) = .int .i64 width := (h0 0 (by decide +kernel)).trans rfl
      clear  hd h0 he ha hF
      go_simp
      rw [HF.out]
      exact ⟨OnlyL.refl _ _, rfl⟩
     ·intro gh ρ u hc hf1 hg1 hd h0 hb he ha hF
      have r1 : ρ (.tmp 1) = .slice (some ⟨b, off, none⟩) n c := (h0 1 (by decide +kernel)).trans rfl
      clear  hd h0 he ha hF
      go_simp
      rw [HF.out]
      exact ⟨OnlyL.refl _ _, rfl⟩
     ·intro gh ρ u hc hf1 hg1 hd h0 hb he ha hF
      have r8 : ρ (.tmp 8) = .int .i64 (h : Nat) := (h0 8 (by decide +kernel)).trans rfl
      clear  hd h0 he ha hF
      go_simp
      rw [HF.out]
      exact ⟨OnlyL.refl _ _, rfl⟩
     ·intro gh ρ u hc hf1 hg1 hd h0 hb he ha hF
      have r32 : ρ (.tmp 32) = .slice (some ⟨b, off, none⟩) n c := by have h := hF 1 (by decide +kernel) (by decide +kernel); rw [HF.out] at h; exact (hd 1 (by decide +kernel) 32 (by kernel_rfl)).trans h
      have r33 : ρ (.tmp 33) = .int .i64 (h : Nat) := by have h := hF 2 (by decide +kernel) (by decide +kernel); rw [HF.out] at h; exact (hd 2 (by decide +kernel) 33 (by kernel_rfl)).trans h
      clear  hd h0 he ha hF
      go_simp
      rw [HF.out]
      exact ⟨OnlyL.refl _ _, rfl⟩
     ·intro gh ρ u hc hf1 hg1 hd h0 hb he ha hF
      have r2 : ρ (.tmp 2) = .int .i64 (k : Nat) := (h0 2 (by decide +kernel)).trans rfl
      clear  hd h0 he ha hF
      go_simp
      rw [HF.out]
      exact ⟨OnlyL.refl _ _, rfl⟩
     ·intro gh ρ u hc hf1 hg1 hd h0 hb he ha hF
      have r8 : ρ (.tmp 8) = .int .i64 (h : Nat) := (h0 8 (by decide +kernel)).trans rfl
      clear  hd h0 he ha hF
      go_simp
      rw [HF.out]
      exact ⟨OnlyL.refl _ _, rfl⟩
     ·intro gh ρ u hc hf1 hg1 hd h0 hb he ha hF
      have r35 : ρ (.tmp 35) = .int .i64 (k : Nat) := by have h := hF 4 (by decide +kernel) (by decide +kernel); rw [HF.out] at h; exact (hd 4 (by decide +kernel) 35 (by kernel_rfl)).trans h
      have r36 : ρ (.tmp 36) = .int .i64 (h : Nat) := by have h := hF 5 (by decide +kernel) (by decide +kernel); rw [HF.out] at h; exact (hd 5 (by decide +kernel) 36 (by kernel_rfl)).trans h
      clear  hd h0 he ha hF
      go_simp
      rw [HF.out]
      exact ⟨OnlyL.refl _ _, rfl⟩
     ·intro gh ρ u hc hf1 hg1 hd h0 hb he ha hF
      replace hb : Below w2.heap.size w2 u := hb.drew.below (by decide +kernel)
      have hbz : w2.heap.size ≤ u.heap.size := hb.size
      have r31 : ρ (.tmp 31) = .int .i64 width := by have h := hF 0 (by decide +kernel) (by decide +kernel); rw [HF.out] at h; exact (hd 0 (by decide +kernel) 31 (by kernel_rfl)).trans h
      have r34 : ρ (.tmp 34) = .slice (some ⟨b, off + h, none⟩) m (c - h) := by have h := hF 3 (by decide +kernel) (by decide +kernel); rw [HF.out] at h; exact (hd 3 (by decide +kernel) 34 (by kernel_rfl)).trans h
      have r37 : ρ (.tmp 37) = .int .i64 (kz : Nat) := by have h := hF 6 (by decide +kernel) (by decide +kernel); rw [HF.out] at h; exact (hd 6 (by decide +kernel) 37 (by kernel_rfl)).trans h
      clear  hd h0 he ha hF
      go_simp
      refine (HI.out _ (HR1.out.below (below_then HB.out hb HB.out.size)).base).mono ?_
      rintro e u1 ⟨A1, c1, rfl, ho, hb1⟩
      rw [HF.out]
      exact ⟨_, rfl, OnlyL.of_below hb1, A1, c1, rfl, RowIn.of_row ho (fun k h1 h2 => .inl ⟨h1, h2⟩)⟩
     ·intro gh ρ u hc hf1 hg1 hd h0 hb he ha hF
      have r0 : ρ (.tmp 0) = .int .i64 width := (h0 0 (by decide +kernel)).trans rfl
      clear  hd h0 he ha hF
      go_simp
      rw [HF.out]
      exact ⟨OnlyL.refl _ _, rfl⟩
     ·intro gh ρ u hc hf1 hg1 hd h0 hb he ha hF
      have r1 : ρ (.tmp 1) = .slice (some ⟨b, off, none⟩) n c := (h0 1 (by decide +kernel)).trans rfl
      clear  hd h0 he ha hF
      go_simp
      rw [HF.out]
      exact ⟨OnlyL.refl _ _, rfl⟩
     ·intro gh ρ u hc hf1 hg1 hd h0 hb he ha hF
      have r8 : ρ (.tmp 8) = .int .i64 (h : Nat) := (h0 8 (by decide +kernel)).trans rfl
      clear  hd h0 he ha hF
      go_simp
      rw [HF.out]
      exact ⟨OnlyL.refl _ _, rfl⟩
     ·intro gh ρ u hc hf1 hg1 hd h0 hb he ha hF
      have r40 : ρ (.tmp 40) = .slice (some ⟨b, off, none⟩) n c := by have h := hF 9 (by decide +kernel) (by decide +kernel); rw [HF.out] at h; exact (hd 9 (by decide +kernel) 40 (by kernel_rfl)).trans h
      have r41 : ρ (.tmp 41) = .int .i64 (h : Nat) := by have h := hF 10 (by decide +kernel) (by decide +kernel); rw [HF.out] at h; exact (hd 10 (by decide +kernel) 41 (by kernel_rfl)).trans h
      clear  hd h0 he ha hF
      go_simp
      rw [HF.out]
      exact ⟨OnlyL.refl _ _, rfl⟩
     ·intro gh ρ u hc hf1 hg1 hd h0 hb he ha hF
      replace hb : Below w2.heap.size w2 u := hb.drew.below (by decide +kernel)
      have hbz : w2.heap.size ≤ u.heap.size := hb.size
      have r39 : ρ (.tmp 39) = .int .i64 width := by have h := hF 8 (by decide +kernel) (by decide +kernel); rw [HF.out] at h; exact (hd 8 (by decide +kernel) 39 (by kernel_rfl)).trans h
      have r42 : ρ (.tmp 42) = .slice (some ⟨b, off, none⟩) h c := by have h := hF 11 (by decide +kernel) (by decide +kernel); rw [HF.out] at h; exact (hd 11 (by decide +kernel) 42 (by kernel_rfl)).trans h
      clear  hd h0 he ha hF
      go_simp
      refine (HT.out _ (HR2.out.below (below_then HB.out hb HB.out.size)).base).mono ?_
      rintro e u1 ⟨rfl, hb1⟩
      rw [HF.out]
      exact ⟨_, rfl, OnlyL.of_below hb1, rfl⟩
     ·intro gh ρ u hc hf1 hg1 hd h0 hb he ha hF
      replace hb : Below w2.heap.size w2 u := hb.drew.below (by decide +kernel)
      have hbz : w2.heap.size ≤ u.heap.size := hb.size
      have r43 : ρ (.tmp 43) = .string r := by have h := hF 12 (by decide +kernel) (by decide +kernel); rw [HF.out] at h; exact (hd 12 (by decide +kernel) 43 (by kernel_rfl)).trans h
      clear  hd h0 he ha hF
      go_simp
      rw [HF.out]
      exact ⟨OnlyL.of_below ((Below.refl _ _).alloc (Nat.le_refl _) _), rfl, by simp, NewBox.new _ _ _⟩
     ·intro gh ρ u hc hf1 hg1 hd h0 hb he ha hF
      replace hb : Below w2.heap.size w2 u := hb.drew.below (by decide +kernel)
      have hbz : w2.heap.size ≤ u.heap.size := hb.size
      have f7 : ∃ (A1 : Option Addr) (c1 : Nat), (gh 7).v = .slice A1 q c1 ∧ (RowIn (inG (gh 7) []) u 9 1 (.slice A1 q c1) q (strs t)) := by have h := hF 7 (by decide +kernel) (by decide +kernel); rw [HF.out] at h; exact h
      obtain ⟨A1, c1, hv7, g7_0⟩ := f7
      have hrow7 := g7_0
      have r38 : ρ (.tmp 38) = .slice A1 q c1 := (hd 7 (by decide +kernel) 38 (by kernel_rfl)).trans hv7
      have f13 : (gh 13).v = .slice (some ⟨(gh 13).s, 0, none⟩) 1 1 ∧ (gh 13).s < (gh 13).e ∧ NewBox u (gh 13).s (strs [r]) := by have h := hF 13 (by decide +kernel) (by decide +kernel); rw [HF.out] at h; exact h
      obtain ⟨hv13, hlt13, hnb13⟩ := f13
      have r44 : ρ (.tmp 44) = .slice (some ⟨(gh 13).s, 0, none⟩) 1 1 := (hd 13 (by decide +kernel) 44 (by kernel_rfl)).trans hv13
      clear hv7 hv13 hd h0 he ha hF
      refine gapp1Str _ _ rfl _ (q) (strs t) r38 hrow7 _ r r44 hnb13 (by omega) ?_
      intro A' c' u' hrow hlt hg
      rw [HF.out]
      have hS : ∀ k, inG (gh 7) [] k → ∃ z ∈ ([7] : List Nat), (gh z).s ≤ k ∧ k < (gh z).e := by
       rintro k (h | ⟨t, ht, h⟩)
       ·exact ⟨7, by decide, h⟩
       ·cases ht
      refine ⟨⟨hg.os, hg.tape, hg.output, hg.size, fun k hk hd' _ => hg.block k hk (fun e => ?_)⟩, A', c', rfl, ?_⟩
      ·obtain ⟨z, hz, h1, h2⟩ := hS k (hrow7.at_ k e.symm); have := hd' (gh z) (List.mem_map.2 ⟨z, hz, rfl⟩); omega
      ·exact RowIn.widen hrow (fun k hk => .inr (let ⟨z, hz, h⟩ := hS k hk; ⟨gh z, List.mem_map.2 ⟨z, hz, rfl⟩, h⟩)) (fun e => .inl ⟨Nat.le_refl _, hlt _ e⟩)
     ·intro gh ρ u hc hf1 hg1 hd h0 hb he ha hF
      have f14 : ∃ (A3 : Option Addr) (c3 : Nat), (gh 14).v = .slice A3 (q + 1) c3 ∧ RowIn (inG (gh 14) [(gh 7)]) u 9 1 (.slice A3 (q + 1) c3) ((q + 1)) ((strs t ++ strs [r])) := by have h := hF 14 (by decide +kernel) (by decide +kernel); rw [HF.out] at h; exact h
      obtain ⟨A3, c3, hv14, hrow14⟩ := f14
      have hrt14 := hv14
      have r45 : ρ (.tmp 45) = .slice A3 (q + 1) c3 := (hd 14 (by decide +kernel) 45 (by kernel_rfl)).trans hv14
      have HRT14 := lH hrt14
      clear hv14 hrt14 hd h0 he ha hF
      go_simp
      rw [HF.out]
      exact ⟨OnlyL.refl _ _, A3, c3, HRT14.out, rfl⟩
     intro gh w3 hB hE hA hF
     replace hB : Below w2.heap.size w2 w3 := hB.below rfl
     have f0 : (gh 0).v = .int .i64 width := by have h := hF 0 (by decide +kernel) (by decide +kernel); rw [HF.out] at h; exact h
     have f1 : (gh 1).v = .slice (some ⟨b, off, none⟩) n c := by have h := hF 1 (by decide +kernel) (by decide +kernel); rw [HF.out] at h; exact h
     have f2 : (gh 2).v = .int .i64 (h : Nat) := by have h := hF 2 (by decide +kernel) (by decide +kernel); rw [HF.out] at h; exact h
     have f3 : (gh 3).v = .slice (some ⟨b, off + h, none⟩) m (c - h) := by have h := hF 3 (by decide +kernel) (by decide +kernel); rw [HF.out] at h; exact h
     have f4 : (gh 4).v = .int .i64 (k : Nat) := by have h := hF 4 (by decide +kernel) (by decide +kernel); rw [HF.out] at h; exact h
     have f5 : (gh 5).v = .int .i64 (h : Nat) := by have h := hF 5 (by decide +kernel) (by decide +kernel); rw [HF.out] at h; exact h
     have f6 : (gh 6).v = .int .i64 (kz : Nat) := by have h := hF 6 (by decide +kernel) (by decide +kernel); rw [HF.out] at h; exact h
     have f8 : (gh 8).v = .int .i64 width := by have h := hF 8 (by decide +kernel) (by decide +kernel); rw [HF.out] at h; exact h
     have f9 : (gh 9).v = .slice (some ⟨b, off, none⟩) n c := by have h := hF 9 (by decide +kernel) (by decide +kernel); rw [HF.out] at h; exact h
     have f10 : (gh 10).v = .int .i64 (h : Nat) := by have h := hF 10 (by decide +kernel) (by decide +kernel); rw [HF.out] at h; exact h
     have f11 : (gh 11).v = .slice (some ⟨b, off, none⟩) h c := by have h := hF 11 (by decide +kernel) (by decide +kernel); rw [HF.out] at h; exact h
     have f12 : (gh 12).v = .string r := by have h := hF 12 (by decide +kernel) (by decide +kernel); rw [HF.out] at h; exact h
     have f13 : (gh 13).v = .slice (some ⟨(gh 13).s, 0, none⟩) 1 1 ∧ (gh 13).s < (gh 13).e ∧ NewBox w3 (gh 13).s (strs [r]) := by have h := hF 13 (by decide +kernel) (by decide +kernel); rw [HF.out] at h; exact h
     have f14 : ∃ (A3 : Option Addr) (c3 : Nat), (gh 14).v = .slice A3 (q + 1) c3 ∧ RowIn (inG (gh 14) [(gh 7)]) w3 9 1 (.slice A3 (q + 1) c3) ((q + 1)) ((strs t ++ strs [r])) := by have h := hF 14 (by decide +kernel) (by decide +kernel); rw [HF.out] at h; exact h
     have f15 : ∃ (A3 : Option Addr) (c3 : Nat), (gh 14).v = .slice A3 (q + 1) c3 ∧ (gh 15).v = .slice A3 (q + 1) c3 := by have h := hF 15 (by decide +kernel) (by decide +kernel); rw [HF.out] at h; exact h
     have hv12 := f12
     obtain ⟨A3, c3, hv14, hrow14⟩ := f14
     have hv0 := f0
     have hv1 := f1
     have hv2 := f2
     have hv3 := f3
     have hv4 := f4
     have hv5 := f5
     have hv6 := f6
     have hv8 := f8
     have hv9 := f9
     have hv10 := f10
     have hv11 := f11
     obtain ⟨hv13, -⟩ := f13
     obtain ⟨A3_15, c3_15, hu14, hv15⟩ := f15
     replace hu14 := hv14.symm.trans hu14
     simp at hu14
     try simp only [and_assoc] at hu14
     obtain ⟨rfl, rfl⟩ := hu14
     obtain ⟨hs7, hse7, he7⟩ := hE 7 (by decide +kernel)
     obtain ⟨hs14, hse14, he14⟩ := hE 14 (by decide +kernel)
     have hdj3_7_14 := hA 7 (by decide +kernel) 14 (by decide +kernel) (by decide)
     change w2.heap.size ≤ _ at hs7 hs14
     have hS : ∀ k, inG (gh 14) [gh 7] k → w2.heap.size ≤ k ∧ k < w3.heap.size := by
      rintro k (h | ⟨t, ht, h⟩)
      ·omega
      ·simp only [List.mem_cons, List.not_mem_nil, or_false] at ht
       rcases ht with rfl <;> omega
     have hrwr := hrow14.row
     obtain ⟨hrcr, hrnr, hror⟩ := hrow14.own hS (Nat.le_refl _)
     have hrbr := hrow14.based (fun k h => (hS k h).1)
     clear hS hrow14
     clear hE hA hF
     generalize (gh 7).v = vq7 at *
     simp only [putDs, Nat.reduceAdd, hv0, hv1, hv2, hv3, hv4, hv5, hv6, hv8, hv9, hv10, hv11, hv12, hv13, hv14, hv15]
     clear hv0 hv1 hv2 hv3 hv4 hv5 hv6 hv8 hv9 hv10 hv11 hv12 hv13 hv14 hv15
     generalize (gh 7).s = s3_7 at *
     generalize (gh 7).e = e3_7 at *
     generalize (gh 14).s = s3_14 at *
     generalize (gh 14).e = e3_14 at *
     clear HF
     have hb := hB
     clear hB
     have hzw3 : w2.heap.size ≤ w3.heap.size := hb.size
     have hzzw3 : w.heap.size ≤ w3.heap.size := by omega
     replace HB := lH (below_then HB.out hb HB.out.size)
     clear hb
     have HRB := lH hrbr
     clear hrbr hrnr hrwr hrcr hror
     go_wp2
     refine bodyPost_ret (v := .slice A3 (q + 1) c3) (by simp [results, Tryz.results68, go_sem]) rfl ?_
     rw [HW.out]
     refine ⟨A3, c3, by rw [HQ.out], ?_, HB.out⟩
     rw [HQ.out, strs_app]
     exact row_mono HRB.out (by omega)
   ·have HW := lH (inc_end (width := width) (f := f) (k := k) (l := l) (by omega))
    obtain rfl : n = 1 := by omega
    clear hr hn ha hks hcl IH hw
    go_enter Tryz.func68, Tryz.ntmps68
    go_wp2
    go_ret
    rw [HW.out]
    exact ⟨none, 0, rfl, World.ownsRow_nil _ _ _ _, Below.refl _ _⟩
theorem incl_root {width : Int} (hw : inR width 1 32 = true) : ∀ {f n k : Nat} {l : List ByteArray} {leaf : ByteArray}, l.length = n → n ≤ 512 → n < f → areH width l = true → l[k]? = some leaf →
  (incFu width f l k).length = inSt f n k ∧ areH width (incFu width f l k) = true ∧ (inW width leaf f n k (incFu width f l k)).1 = rootFu width 513 l
 | 0, n, k, l, leaf, _, _, h, _, _ => by omega
 | f + 1, n, k, l, leaf, hn, h5, hf, ha, hk => by
   have hkl := (List.getElem?_eq_some_iff.1 hk).1
   rcases Nat.lt_or_ge 1 n with h1 | h1
   ·obtain ⟨k1, k2, k3⟩ := halfN_bd h1 h5
    by_cases hlt : k < halfN n
    ·obtain ⟨i1, i2, i3⟩ := incl_root hw (f := f) (n := halfN n) (k := k) (l := l.take (halfN n)) (leaf := leaf) (by rw [List.length_take]; omega) (by omega) (by omega) (areH_sub ha (fun s hs => List.mem_of_mem_take hs)) (by rw [List.getElem?_take_of_lt hlt]; exact hk)
     rw [inc_lo hn h1 hlt, inSt_lo h1 hlt, inW_lo h1 hlt, prI_snoc, prL_snoc, i3, fu_node hn h1 h5]
     exact ⟨by rw [List.length_append, i1]; rfl, areH_snoc i2 (rootFu_size hw (by rw [List.length_drop]; omega) (by rw [List.length_drop]; omega) (areH_sub ha (fun s hs => List.mem_of_mem_drop hs))), rfl⟩
    ·obtain ⟨i1, i2, i3⟩ := incl_root hw (f := f) (n := n - halfN n) (k := k - halfN n) (l := l.drop (halfN n)) (leaf := leaf) (by rw [List.length_drop]; omega) (by omega) (by omega) (areH_sub ha (fun s hs => List.mem_of_mem_drop hs)) (by rw [List.getElem?_drop, show halfN n + (k - halfN n) = k by omega]; exact hk)
     rw [inc_hi hn h1 hlt, inSt_hi h1 hlt, inW_hi h1 hlt, prI_snoc, prL_snoc, i3, fu_node hn h1 h5]
     exact ⟨by rw [List.length_append, i1]; rfl, areH_snoc i2 (rootFu_size hw (by rw [List.length_take]; omega) (by rw [List.length_take]; omega) (areH_sub ha (fun s hs => List.mem_of_mem_take hs))), rfl⟩
   ·obtain rfl : n = 1 := by omega
    obtain rfl : k = 0 := by omega
    rw [inc_end (by omega), inSt_end (Nat.le_refl _), inW_end (Nat.le_refl _)]
    exact ⟨rfl, rfl, (fu_one hn hk).symm⟩
theorem incl_ok {width : Int} {l : List ByteArray} {n k : Nat} {leaf : ByteArray} (hw : inR width 1 32 = true) (hn : l.length = n) (h5 : n ≤ 512) (ha : areH width l = true) (hk : l[k]? = some leaf) :
  inOk width n k leaf (incFu width 513 l k) = true ∧ inRt width n k leaf (incFu width 513 l k) = rootFu width 513 l := by
 obtain ⟨h1, h2, h3⟩ := incl_root hw (f := 513) hn h5 (by omega) ha hk
 have hkl := (List.getElem?_eq_some_iff.1 hk).1
 have e : inOk width n k leaf (incFu width 513 l k) = true := by
  rw [inOk, hw, h2, h1, stIn, if_pos ⟨Int.natCast_nonneg _, by omega, by omega⟩, Int.toNat_natCast, Int.toNat_natCast, decide_eq_true (areH_mem ha _ (List.mem_of_getElem? hk))]
  simp
 refine ⟨e, ?_⟩
 rw [inRt, if_pos e, Int.toNat_natCast, Int.toNat_natCast]
 exact h3
theorem log_at {l : List Ent} (h : logOk l = true) {n : Nat} {e : Ent} (he : l[n]? = some e) : entryOk e = true ∧ (cnt (l.take n) e.topic : Int) = e.index := by
 rw [logOk, Bool.and_eq_true, rightTo, List.all_eq_true] at h
 have := h.2 n (List.mem_range.2 (List.getElem?_eq_some_iff.1 he).1)
 rw [rightAt_eq he, Bool.and_eq_true] at this
 exact ⟨this.1, of_decide_eq_true this.2⟩
theorem toList_inj {a b : ByteArray} (h : (a.toList == b.toList) = true) : a = b := by
 rcases Decidable.em (a = b) with e | e
 ·exact e
 ·rw [beq_no e] at h; cases h
theorem cnt_mono {l : List Ent} {t : ByteArray} {m : Nat} : ∀ {k : Nat}, cnt (l.take m) t ≤ cnt (l.take (m + k)) t
 | 0 => Nat.le_refl _
 | k + 1 => by
   refine Nat.le_trans (cnt_mono (k := k)) ?_
   rcases Nat.lt_or_ge (m + k) l.length with h | h
   ·rw [show m + (k + 1) = m + k + 1 by omega, cnt_take t (List.getElem?_eq_getElem h)]; omega
   ·rw [List.take_of_length_le (show l.length ≤ m + (k + 1) by omega), List.take_of_length_le h]; exact Nat.le_refl _
theorem firstFrom_at {p : Ent → Bool} : ∀ {l : List Ent} {j n : Nat} {e : Ent}, l[n]? = some e → p e = true → (∀ m x, m < n → l[m]? = some x → p x = false) → firstFrom p l j = ((j + n : Nat) : Int)
 | [], j, n, e, h, _, _ => by cases h
 | x :: l, j, 0, e, h, hp, _ => by cases h; rw [firstFrom, if_pos hp]; rfl
 | x :: l, j, n + 1, e, h, hp, hq => by
   rw [firstFrom, if_neg (by rw [hq 0 x (by omega) rfl]; exact Bool.false_ne_true), firstFrom_at (l := l) (j := j + 1) (n := n) (e := e) h hp (fun m y hm hy => hq (m + 1) y (by omega) hy)]
   congr 1; omega
theorem isTI_true {t : ByteArray} {i : Int} {e : Ent} : isTI t i e = true ↔ e.topic = t ∧ e.index = i := by
 rw [isTI, Bool.and_eq_true]
 constructor
 ·rintro ⟨h1, h2⟩; exact ⟨toList_inj h1, by simpa using h2⟩
 ·rintro ⟨rfl, rfl⟩; exact ⟨beq_self_eq_true _, beq_self_eq_true _⟩
theorem leaf_at {l : List Ent} (h : logOk l = true) {n : Nat} {e : Ent} (he : l[n]? = some e) : firstFrom (isTI e.topic e.index) l 0 = (n : Int) := by
 have hn := (List.getElem?_eq_some_iff.1 he).1
 have h1 := (log_at h he).2
 have h2 := firstFrom_at (p := isTI e.topic e.index) (l := l) (j := 0) he (isTI_true.2 ⟨rfl, rfl⟩) (fun m x hm hx => by
  rcases hq : isTI e.topic e.index x with _ | _
  ·rfl
  ·obtain ⟨q1, q2⟩ := isTI_true.1 hq
   have h3 := (log_at h hx).2
   have h4 := cnt_yes hx q1
   have h5 := cnt_mono (l := l) (t := e.topic) (m := m + 1) (k := n - (m + 1))
   rw [show m + 1 + (n - (m + 1)) = n by omega, h4] at h5
   rw [q1] at h3
   omega)
 rw [Nat.zero_add] at h2
 exact h2
theorem cnt_snoc (l : List Ent) (e : Ent) (t : ByteArray) : cnt (l ++ [e]) t = cnt l t + if e.topic = t then 1 else 0 := by
 rw [cnt, sumBy_append]; rfl
theorem lastTo_snoc {p : Ent → Bool} {l : List Ent} {e : Ent} (h : p e = true) : lastTo p (l ++ [e]) (l.length + 1) = (l.length : Int) :=
 lastTo_hit (by rw [List.getElem?_append_right (Nat.le_refl _), Nat.sub_self]; rfl) h
theorem added {l : List Ent} {t k b : ByteArray} {ti : Int} (h : logOk l = true) (hc : addCode l t ti k b = 0) :
  logOk (l ++ [newEnt l t ti k b]) = true ∧ leafOfM (l ++ [newEnt l t ti k b]) t (cnt l t : Nat) = (l.length : Int) ∧ latestOfM (l ++ [newEnt l t ti k b]) t k = (l.length : Int) ∧ nextOfM (l ++ [newEnt l t ti k b]) t = ((cnt l t + 1 : Nat) : Int) ∧ nextOfM l t = ((cnt l t : Nat) : Int) := by
 have h1 := logOk_add h hc
 have hn := (addCode_0 hc).1
 have hg : (l ++ [newEnt l t ti k b])[l.length]? = some (newEnt l t ti k b) := by rw [List.getElem?_append_right (Nat.le_refl _), Nat.sub_self]; rfl
 refine ⟨h1, ?_, ?_, ?_, ?_⟩
 ·rw [leafOfM, if_pos h1]; exact leaf_at h1 hg
 ·rw [latestOfM, if_pos h1, List.length_append, show [newEnt l t ti k b].length = 1 from rfl]
  refine lastTo_snoc ?_
  rw [isTK]
  show ((t.toList == t.toList) && (k.toList == k.toList)) = true
  rw [beq_self_eq_true, beq_self_eq_true]; rfl
 ·rw [nextOfM, h1, hn, cnt_snoc, if_pos (show (newEnt l t ti k b).topic = t from rfl)]; rfl
 ·rw [nextOfM, h, hn]; rfl
theorem RowB.room {w : World} {lo hi n c : Nat} {A : Option Addr} {xs : List Value} (h : RowB w lo hi (.slice A n c, n) xs) : n ≤ c := by
 obtain ⟨A', c', e1, h1, _⟩ := ownsRow_slice h.1
 injection e1 with _ _ e3
 omega
end
section
open Go.RowKit Go.Shelf
def hasHd (hs : List Hd) (m : Int) : Bool := hs.any (fun x => x.size == m)
def firstOf {α : Type} (p : α → Bool) : List α → Nat → Int
 | [], _ => -1
 | e :: r, k => if p e then (k : Int) else firstOf p r (k + 1)
theorem firstOf_any {α : Type} {p : α → Bool} : ∀ {l : List α} {k : Nat}, decide (0 ≤ firstOf p l k) = l.any p
 | [], k => rfl
 | e :: r, k => by
   rw [firstOf, List.any_cons]
   cases h : p e
   ·rw [if_neg (by simp), Bool.false_or]; exact firstOf_any
   ·rw [if_pos rfl, decide_eq_true (by omega), Bool.true_or]
theorem firstOf_hit {α : Type} {p : α → Bool} {l : List α} {k : Nat} {e : α} (h : l[k]? = some e) (hp : p e = true) : firstOf p (l.drop k) k = k := by
 obtain ⟨hk, he⟩ := List.getElem?_eq_some_iff.1 h
 rw [List.drop_eq_getElem_cons hk, he, firstOf, if_pos hp]
theorem firstOf_miss {α : Type} {p : α → Bool} {l : List α} {k : Nat} {e : α} (h : l[k]? = some e) (hp : p e = false) : firstOf p (l.drop k) k = firstOf p (l.drop (k + 1)) (k + 1) := by
 obtain ⟨hk, he⟩ := List.getElem?_eq_some_iff.1 h
 rw [List.drop_eq_getElem_cons hk, he, firstOf, if_neg (by simp [hp])]
theorem firstOf_end {α : Type} {p : α → Bool} {l : List α} : firstOf p (l.drop l.length) l.length = -1 := by
 rw [List.drop_length, firstOf]
set_option maxRecDepth 100000 in
theorem hasPred_c (m : Int) (B1 : Nat) (x : Hd) (w : World) (h1 : B1 < w.heap.size) (hc1 : w.cell? ⟨B1, 0, none⟩ = some (.int .i64 m)) :
  Calls Tryz.prog 129 #[.agg #[.int .i64 x.num, .int .i64 x.size, .string x.root, .int .i64 x.taken, .string x.troot], .pointer (some ⟨B1, 0, none⟩)] w fun e w' => e = .returned (.bool (x.size == m)) ∧ Below w.heap.size w w' := by
 go_enter Tryz.func129, Tryz.ntmps129
 go_wp2
 go_ret
 exact ⟨ret_bool (by first | rfl | (simp; done)), (Below.refl _ _).alloc (Nat.le_refl _) _⟩
set_option maxRecDepth 100000 in
theorem hdFunc_c (A : Option Addr) (c lo hi n : Nat) (l : List Hd) (m : Int) (B1 : Nat) (w : World) (hr : Rd w lo hi A (hds l)) (hn : l.length = n) (hl : n ≤ 1048576) (h1 : B1 < w.heap.size) (hc1 : w.cell? ⟨B1, 0, none⟩ = some (.int .i64 m)) :
  Calls Tryz.prog 115 #[.slice A n c, .func (.func 129) #[] #[.pointer (some ⟨B1, 0, none⟩)]] w fun e w' => e = .returned (.int .i64 (firstOf (fun x => x.size == m) l 0)) ∧ Below w.heap.size w w' := by
 have HN := lH hn
 clear hn
 have eg : ∀ args w, (callFunc 129 args).run Tryz.prog w = .ok (.enter 129 args) w := enters_of Tryz.func129 (by kernel_rfl) rfl
 go_enter Tryz.func115, Tryz.ntmps115
 go_wp2
 go_loopw [5, 8] (fun _ i wr => ∃ k : Nat, k ≤ n ∧ i = .int .i64 k ∧ firstOf (fun x => x.size == m) l 0 = firstOf (fun x => x.size == m) (l.drop k) k ∧ Below w.heap.size w wr) (fun _ i _ => n - (intOf i).toNat)
 case atStart => exact ⟨0, Nat.zero_le _, rfl, rfl, Below.refl _ _⟩
 case round =>
  obtain ⟨k, hk, rfl, hst, hb0⟩ := hrel
  have HST := lH hst
  have HB0 := lH hb0
  clear hst
  by_cases hlt : k < n
  ·obtain ⟨b, off, x, rfl, hb, hks, hc⟩ := hd_cells (hr.below hb0) (k := k) (by rw [HN.out]; exact hlt)
   have hc0 := hc.1
   have hc1' := hc.2.1
   have hc2 := hc.2.2.1
   have hc3 := hc.2.2.2.1
   have hc4 := hc.2.2.2.2
   have hI1 : (0 : Int) ≤ (k : Int) := by omega
   have hI2 : (k : Int) < (n : Int) := by omega
   have HK := lH hks
   have HP := lH (hasPred_c m B1 x wr (Nat.lt_of_lt_of_le h1 hb0.size) ((hb0.cell (p := ⟨B1, 0, none⟩) h1).trans hc1))
   clear hc hks hr hb0 hc1
   rcases hp : (x.size == m) with _ | _
   ·have HS := lH (firstOf_miss (p := fun x => x.size == m) HK.out hp)
    rw [hp] at HP
    go_wp2_with (go_at_fn 129; refine HP.out.mono ?_; rintro e w2 ⟨rfl, hb2⟩)
    go_roundw
    case rel => exact ⟨k + 1, by omega, by go_num, by rw [HST.out, HS.out], below_then HB0.out hb2 HB0.out.size⟩
    case measure => simp [intOf]; omega
   ·have HS := lH (firstOf_hit (p := fun x => x.size == m) HK.out hp)
    rw [hp] at HP
    go_wp2_with (go_at_fn 129; refine HP.out.mono ?_; rintro e w2 ⟨rfl, hb2⟩)
    go_ret
    exact ⟨ret_int (by rw [HST.out, HS.out]), below_then HB0.out hb2 HB0.out.size⟩
  ·obtain rfl : k = n := by omega
   clear hr hb0
   go_wp2
   go_ret
   exact ⟨ret_int (by rw [HST.out, ← HN.out, firstOf_end]), HB0.out⟩
set_option maxRecDepth 100000 in
theorem hdContains_c (A : Option Addr) (c lo hi n : Nat) (l : List Hd) (m : Int) (B1 : Nat) (w : World) (hr : Rd w lo hi A (hds l)) (hn : l.length = n) (hl : n ≤ 1048576) (h1 : B1 < w.heap.size) (hc1 : w.cell? ⟨B1, 0, none⟩ = some (.int .i64 m)) :
  Calls Tryz.prog 65 #[.slice A n c, .func (.func 129) #[] #[.pointer (some ⟨B1, 0, none⟩)]] w fun e w' => e = .returned (.bool (hasHd l m)) ∧ Below w.heap.size w w' := by
 have HI := lH (hdFunc_c A c lo hi n l m B1 w hr hn hl h1 hc1)
 have HD : Hid (decide (0 ≤ firstOf (fun x => x.size == m) l 0) = hasHd l m) := lH firstOf_any
 clear hr hn hc1
 generalize firstOf (fun x => x.size == m) l 0 = q at *
 go_enter Tryz.func65, Tryz.ntmps65
 go_wp2_with fail
 refine HI.out.mono ?_
 rintro e w2 ⟨rfl, hb⟩
 have HB := lH hb
 clear hb HI
 rcases (show 0 ≤ q ∨ ¬ 0 ≤ q by omega) with hq | hq
 ·go_wp2
  go_ret
  exact ⟨ret_bool (by rw [← HD.out, decide_eq_true hq]), HB.out⟩
 ·go_wp2
  go_ret
  exact ⟨ret_bool (by rw [← HD.out, decide_eq_false (by omega)]), HB.out⟩
set_option maxRecDepth 100000 in
theorem hasSize_c (p c lo hi n : Nat) (A : Option Addr) (l : List Hd) (m : Int) (w : World) (hp : p < w.heap.size) (hc3 : w.cell? ⟨p, 3, none⟩ = some (.slice A n c)) (hr : Rd w lo hi A (hds l)) (hn : l.length = n) (hl : n ≤ 1048576) :
  Calls Tryz.prog 80 #[.pointer (some ⟨p, 0, none⟩), .int .i64 m] w fun e w' => e = .returned (.bool (hasHd l m)) ∧ Below w.heap.size w w' := by
 have HN := lH hn
 have HC : Hid (∀ W, Rd W 0 W.heap.size A (hds l) → ∀ B1, B1 < W.heap.size → W.cell? ⟨B1, 0, none⟩ = some (.int .i64 m) → _) := lH (fun W r B1 hb hc => hdContains_c A c 0 W.heap.size n l m B1 W r hn hl hb hc)
 clear hn
 have HB : Hid (Below w.heap.size w w) := Below.refl _ _
 have HOA : Hid (Rd w (0) (w.heap.size) (A) (hds l)) := Rd.base hr
 clear hr
 go_enter Tryz.func80, Tryz.ntmps80
 go_wp2_with fail
 refine calls_named (fun w1 hw => ?_)
 have hz1 : w.heap.size + 1 ≤ w1.heap.size := by rw [hw]; first | omega | simp [World.setCell] <;> omega
 have hzz1 : w.heap.size ≤ w1.heap.size := by omega
 have hbn : Below w.heap.size w w1 := by rw [hw]; exact (by repeat with_reducible first | exact bR _ | apply bA | apply bD)
 replace HB := lH (below_then HB.out hbn HB.out.size)
 replace HOA := lH (HOA.out.below hbn)
 clear hbn
 have HXr : Hid (NewBox w1 (w.heap.size) [.int .i64 m]) := by rw [Hid, hw]; exact ⟨by first | omega | (simp [World.setCell]; done) | (simp [World.setCell]; omega), fun o => by rcases o with _ | o <;> go_simp, fun o => by go_simp⟩
 obtain ⟨hkr, hxr, hfr⟩ := HXr.out
 clear hw
 refine (HC.out _ HOA.out.base _ hkr (hxr 0)).mono ?_
 rintro e w2 ⟨rfl, hb⟩
 have hzw2 : w1.heap.size ≤ w2.heap.size := hb.size
 have hzzw2 : w.heap.size ≤ w2.heap.size := by omega
 replace HB := lH (below_then HB.out hb HB.out.size)
 replace HOA := lH (HOA.out.below hb)
 replace HXr := lH (HXr.out.below hb)
 clear hxr hfr hkr
 obtain ⟨hkr, hxr, hfr⟩ := HXr.out
 clear hb
 go_wp2
 go_ret
 exact ⟨rfl, HB.out⟩
end
end Go.Proofs.YtoccjgcokffkbaaGreat
