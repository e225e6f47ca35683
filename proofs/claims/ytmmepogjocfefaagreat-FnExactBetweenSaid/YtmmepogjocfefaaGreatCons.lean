/- Consistency of leaves. -/
import Derived.Test.YtmmepogjocfefaaGreatTrees
import Derived.Test.YtmmepogjocfefaaGreatGrws
import Derived.Test.YtmmepogjocfefaaGreatReg
import Derived.Test.YtmmepogjocfefaaGreatApp
import Derived.Test.YtmmepogjocfefaaGreatHash3
namespace Go.Proofs.YtmmepogjocfefaaGreat
set_option linter.unusedVariables false
set_option linter.unusedSimpArgs false
open Go.RowKit

def consFu (width : Int) : Nat → List ByteArray → Nat → Bool → List ByteArray
 | 0, _, _, _ => []
 | f + 1, l, k, wh => if l.length = k then (if wh then [] else [rootFu width 513 l]) else
   if k ≤ halfN l.length then consFu width f (l.take (halfN l.length)) k wh ++ [rootFu width 513 (l.drop (halfN l.length))]
   else consFu width f (l.drop (halfN l.length)) (k - halfN l.length) false ++ [rootFu width 513 (l.take (halfN l.length))]
theorem cons_end {width : Int} {f k : Nat} {l : List ByteArray} (h : l.length = k) : consFu width (f + 1) l k true = [] ∧ consFu width (f + 1) l k false = [rootFu width 513 l] := by
 constructor <;> (rw [consFu, if_pos h]; rfl)
theorem cons_lo {width : Int} {f k n : Nat} {l : List ByteArray} {wh : Bool} (hn : l.length = n) (h : k < n) (hk : k ≤ halfN n) : consFu width (f + 1) l k wh = consFu width f (l.take (halfN n)) k wh ++ [rootFu width 513 (l.drop (halfN n))] := by
 rw [consFu, if_neg (by omega), hn, if_pos hk]
theorem cons_hi {width : Int} {f k n : Nat} {l : List ByteArray} {wh : Bool} (hn : l.length = n) (h : k < n) (hk : ¬ k ≤ halfN n) : consFu width (f + 1) l k wh = consFu width f (l.drop (halfN n)) (k - halfN n) false ++ [rootFu width 513 (l.take (halfN n))] := by
 rw [consFu, if_neg (by omega), hn, if_neg hk]
theorem cons_le {width : Int} : ∀ {f k n : Nat} {l : List ByteArray} {wh : Bool}, l.length = n → 1 ≤ k → k ≤ n → n ≤ 512 → (consFu width f l k wh).length ≤ n
 | 0, k, n, l, wh, _, _, _, _ => by rw [consFu]; exact Nat.zero_le _
 | f + 1, k, n, l, wh, hn, h1, hk, h5 => by
   rcases Nat.lt_or_ge k n with h | h
   ·obtain ⟨k1, k2, k3⟩ := halfN_bd (n := n) (by omega) h5
    by_cases hh : k ≤ halfN n
    ·rw [cons_lo hn h hh]
     have := cons_le (width := width) (f := f) (k := k) (n := halfN n) (l := l.take (halfN n)) (wh := wh) (by rw [List.length_take]; omega) h1 hh (by omega)
     simp; omega
    ·rw [cons_hi hn h hh]
     have := cons_le (width := width) (f := f) (k := k - halfN n) (n := n - halfN n) (l := l.drop (halfN n)) (wh := false) (by rw [List.length_drop]; omega) (by omega) (by omega) (by omega)
     simp; omega
   ·have hkn : l.length = k := by omega
    cases wh
    ·rw [(cons_end hkn).2]; simp; omega
    ·rw [(cons_end hkn).1]; exact Nat.zero_le _
theorem RowIn.based {S : Nat → Prop} {w : World} {e : TypeId} {size n lo : Nat} {v : Value} {xs : List Value} (h : RowIn S w e size v n xs) (hS : ∀ k, S k → lo ≤ k) : w.ownsRow lo e size v n xs :=
 ⟨h.row.1, h.row.2.elim .inl (fun ⟨g, cap, cur, h1, _, h3⟩ => .inr ⟨g, cap, cur, h1, hS g (h.at_ g (by rw [h1]; rfl)), h3⟩)⟩
set_option maxRecDepth 100000 in
set_option maxHeartbeats 400000 in
theorem consistency_c (width : Int) (hw : inR width 1 32 = true) : ∀ (f : Nat) (A : Option Addr) (c lo hi n k : Nat) (l : List ByteArray) (wh : Bool) (w : World), Rd w lo hi A (strs l) → l.length = n → n ≤ 512 → n < f → n ≤ c → areH width l = true → 1 ≤ k → k ≤ n →
  Calls Tryz.prog 170 #[.int .i64 width, .slice A n c, .int .i64 k, .bool wh] w fun e w' => ∃ A' c', e = .returned (.slice A' (consFu width f l k wh).length c') ∧
   w'.ownsRow w.heap.size 9 1 (.slice A' (consFu width f l k wh).length c') (consFu width f l k wh).length (strs (consFu width f l k wh)) ∧ Below w.heap.size w w'
 | 0, A, c, lo, hi, n, k, l, wh, w, hr, hn, h5, hf, hc, ha, h1, hkn => by omega
 | f + 1, A, c, lo, hi, n, k, l, wh, w, hr, hn, h5, hf, hc, ha, h1, hkn => by
   have IH := Lib.hid (consistency_c width hw f)
   obtain ⟨b, off, s, rfl, hb, hks, hcl⟩ := hr.str (k := 0) (by omega)
   rcases Nat.lt_or_ge k n with hkl | hkl
   ·have HH := Lib.hid (fun W => implHalfOf_c n W (by omega) h5)
    obtain ⟨k1, k2, k3⟩ := halfN_bd (n := n) (by omega) h5
    by_cases hlt : k ≤ halfN n
    ·have HW := Lib.hid (cons_lo (width := width) (f := f) (wh := wh) hn hkl hlt)
     have hla : (l.take (halfN n)).length = halfN n := by rw [List.length_take]; omega
     have hlb : (l.drop (halfN n)).length = n - halfN n := by rw [List.length_drop, hn]
     have haa := areH_sub ha (fun s hs => List.mem_of_mem_take hs : ∀ s ∈ l.take (halfN n), s ∈ l)
     have hab := areH_sub ha (fun s hs => List.mem_of_mem_drop hs : ∀ s ∈ l.drop (halfN n), s ∈ l)
     have HRa : Hid (Rd w 0 w.heap.size (some ⟨b, off, none⟩) (strs (l.take (halfN n)))) := Lib.hid (hr.takeS _).base
     have HRb : Hid (Rd w 0 w.heap.size (some ⟨b, off + halfN n, none⟩) (strs (l.drop (halfN n)))) := Lib.hid (hr.dropS _).base
     obtain ⟨h, hh⟩ : ∃ h, h = halfN n := ⟨_, rfl⟩
     obtain ⟨m, hm⟩ : ∃ m, m = n - h := ⟨_, rfl⟩
     rw [← hh] at HW HH hla hlb haa hab HRa HRb k1 k2 k3 hlt
     rw [← hm] at hlb
     have hql := cons_le (width := width) (f := f) (k := k) (wh := wh) hla h1 hlt (by omega)
     have HI := Lib.hid (fun W (r : Rd W 0 W.heap.size (some ⟨b, off, none⟩) (strs (l.take h))) => IH.out (some ⟨b, off, none⟩) c 0 W.heap.size h k (l.take h) wh W r hla (by omega) (by omega) (by omega) haa h1 hlt)
     have HT := Lib.hid (fun W (r : Rd W 0 W.heap.size (some ⟨b, off + h, none⟩) (strs (l.drop h))) => rootOf_c width hw 513 (some ⟨b, off + h, none⟩) (c - h) 0 W.heap.size m (l.drop h) W r hlb (by omega) (by omega) (by omega) hab)
     have HR1 := HRa
     have HR2 := HRb
     generalize consFu width f (l.take h) k wh = t at *
     generalize rootFu width 513 (l.drop h) = r at *
     obtain ⟨q, hq⟩ : ∃ q, q = t.length := ⟨_, rfl⟩
     rw [← hq] at HI hql
     have HQ : Hid ((t ++ [r]).length = q + 1) := Lib.hid (by rw [hq, List.length_append]; rfl)
     have hq5 : q ≤ 512 := by omega
     have E1 : (h : Int) ≤ (n : Int) := by omega
     have E2 : (h : Int) ≤ (c : Int) := by omega
     have E3 : (n : Int) ≤ (c : Int) := by omega
     have E4 : ¬ (h : Int) = c := by omega
     have E5 : ¬ h = c := by omega
     have E9 : ¬ c = h := by omega
     have E10 : ¬ (c : Int) = h := by omega
     have E6 : (n : Int) - h = m := by omega
     have E7 : n - h = m := by omega
     have E8 : ((k : Int) == n) = false := beq_eq_false_iff_ne.2 (by omega)
     clear hq hh hm HRa HRb hr hn ha hks hcl hla hlb haa hab IH hw
     have HB : Hid (Below w.heap.size w w) := Below.refl _ _
     go_enter Tryz.func170, Tryz.ntmps170
     go_wp2_with fail
     refine (HH.out _).mono ?_
     rintro e w1_ ⟨rfl, rfl⟩
     go_wp2_with fail
     refine wp_named (fun w2 hw => ?_)
     have hz2 : w.heap.size + 0 ≤ w2.heap.size := by rw [hw]; first | omega | (simp [World.setCell]; done) | (simp [World.setCell]; omega)
     have hbn : Below w.heap.size w w2 := by rw [hw]; exact (by ((repeat (first | ((with_reducible refine Below.alloc ?_ ?_ _); rotate_left 1; (focus (first | omega | (simp; done) | (simp; omega)))) | (with_reducible refine Below.drew ?_) | ((with_reducible refine Below.setCell ?_ ?_ _); rotate_left 1; (focus (first | omega | (simp; done) | (simp; omega)))))); exact Below.refl _ _))
     replace HB := Lib.hid (below_then HB.out hbn HB.out.size)
     clear hbn
     clear hw
     obtain ⟨F, HF⟩ : ∃ F : Facts, Hid (F = fun iq xq tqs dsq uq => match iq with
      | 0 => xq.v = .int .i64 width
      | 1 => xq.v = .slice (some ⟨b, off, none⟩) n c
      | 2 => xq.v = .int .i64 (h : Nat)
      | 3 => xq.v = .slice (some ⟨b, off, none⟩) h c
      | 4 => xq.v = .int .i64 (k : Nat)
      | 5 => xq.v = .bool wh
      | 6 => ∃ (A1 : Option Addr) (c1 : Nat), xq.v = .slice A1 q c1 ∧ (RowIn (inG xq []) uq 9 1 (.slice A1 q c1) q (strs t))
      | 7 => xq.v = .int .i64 width
      | 8 => xq.v = .slice (some ⟨b, off, none⟩) n c
      | 9 => xq.v = .int .i64 (h : Nat)
      | 10 => xq.v = .slice (some ⟨b, off + h, none⟩) m (c - h)
      | 11 => xq.v = .string r
      | 12 => xq.v = .slice (some ⟨xq.s, 0, none⟩) 1 1 ∧ xq.s < xq.e ∧ NewBox uq xq.s (strs [r])
      | 13 => (match tqs, dsq with | [tq0], [] => ∃ (A3 : Option Addr) (c3 : Nat), xq.v = .slice A3 (q + 1) c3 ∧ RowIn (inG xq [tq0]) uq 9 1 (.slice A3 (q + 1) c3) ((q + 1)) ((strs t ++ strs [r])) | _, _ => False)
      | 14 => (match tqs, dsq with | [], [yq0] => ∃ (A3 : Option Addr) (c3 : Nat), yq0.v = .slice A3 (q + 1) c3 ∧ xq.v = .slice A3 (q + 1) c3 | _, _ => False)
      | _ => False) := ⟨_, rfl⟩
     refine wp_region_facts [[], [], [], [], [], [], [], [], [], [], [], [], [], [], [13]] [[], [], [], [], [], [], [], [], [], [], [], [], [], [6], []] [some 26, some 27, some 28, some 29, some 30, some 31, some 32, some 33, some 34, some 35, some 36, some 37, some 38, some 39, some 8] none 0 0 (.inl rfl) F (by kernel_rfl) (by kernel_rfl) (by kernel_rfl) ?_ ⟨?_, ?_, ?_, ?_, ?_, ?_, ?_, ?_, ?_, ?_, ?_, ?_, ?_, ?_, ?_, trivial⟩ ?_
     ·rw [HF.out]; intro iq xq tqs dsq uq u' hi hf hs hW hx hbk
      have kx : ∀ b, xq.s ≤ b → b < xq.e → u'.heap[b]? = uq.heap[b]? := fun b h1 h2 => hbk b (.inr (.inl ⟨h1, h2⟩))
      have kt : ∀ t ∈ tqs, ∀ b, t.s ≤ b → b < t.e → u'.heap[b]? = uq.heap[b]? := fun t ht b h1 h2 => hbk b (.inr (.inr ⟨t, ht, h1, h2⟩))
      match iq with
      | 0 => exact hf
      | 1 => exact hf
      | 2 => exact hf
      | 3 => exact hf
      | 4 => exact hf
      | 5 => exact hf
      | 6 => obtain ⟨A1, c1, hv, p0⟩ := hf; exact ⟨A1, c1, hv, p0.keep (fun k hk => hk.elim (fun h => kx k h.1 h.2) (fun ⟨t, ht, _⟩ => by cases ht))⟩
      | 7 => exact hf
      | 8 => exact hf
      | 9 => exact hf
      | 10 => exact hf
      | 11 => exact hf
      | 12 => obtain ⟨h1, h2, hb⟩ := hf; exact ⟨h1, h2, hb.keep hs (kx _ (Nat.le_refl _) h2)⟩
      | 13 => match tqs, dsq, hf with | [tq0], [], hf => obtain ⟨A3, c3, hv, p0⟩ := hf; exact ⟨A3, c3, hv, p0.keep (fun k hk => hk.elim (fun h => kx k h.1 h.2) (fun ⟨t, ht, h⟩ => kt t ht k h.1 h.2))⟩
      | 14 => exact hf
     ·intro gh ρ u hc hf1 hg1 hd h0 hb he ha hF
      have r0 : ρ (.tmp 0) = .int .i64 width := (h0 0 (by decide +kernel)).trans rfl
      clear  hd h0 he ha hF
      go_simp
      rw [HF.out]
      exact ⟨OnlyL.refl _ _, rfl⟩
     ·intro gh ρ u hc hf1 hg1 hd h0 hb he ha hF
      have r1 : ρ (.tmp 1) = .slice (some ⟨b, off, none⟩) n c := (h0 1 (by decide +kernel)).trans rfl
      clear  hd h0 he ha hF
      go_simp
      rw [HF.out]
      exact ⟨OnlyL.refl _ _, rfl⟩
     ·intro gh ρ u hc hf1 hg1 hd h0 hb he ha hF
      have r10 : ρ (.tmp 10) = .int .i64 (h : Nat) := (h0 10 (by decide +kernel)).trans rfl
      clear  hd h0 he ha hF
      go_simp
      rw [HF.out]
      exact ⟨OnlyL.refl _ _, rfl⟩
     ·intro gh ρ u hc hf1 hg1 hd h0 hb he ha hF
      have r27 : ρ (.tmp 27) = .slice (some ⟨b, off, none⟩) n c := by have h := hF 1 (by decide +kernel) (by decide +kernel); rw [HF.out] at h; exact (hd 1 (by decide +kernel) 27 (by kernel_rfl)).trans h
      have r28 : ρ (.tmp 28) = .int .i64 (h : Nat) := by have h := hF 2 (by decide +kernel) (by decide +kernel); rw [HF.out] at h; exact (hd 2 (by decide +kernel) 28 (by kernel_rfl)).trans h
      clear  hd h0 he ha hF
      go_simp
      rw [HF.out]
      exact ⟨OnlyL.refl _ _, rfl⟩
     ·intro gh ρ u hc hf1 hg1 hd h0 hb he ha hF
      have r2 : ρ (.tmp 2) = .int .i64 (k : Nat) := (h0 2 (by decide +kernel)).trans rfl
      clear  hd h0 he ha hF
      go_simp
      rw [HF.out]
      exact ⟨OnlyL.refl _ _, rfl⟩
     ·intro gh ρ u hc hf1 hg1 hd h0 hb he ha hF
      have r3 : ρ (.tmp 3) = .bool wh := (h0 3 (by decide +kernel)).trans rfl
      clear  hd h0 he ha hF
      go_simp
      rw [HF.out]
      exact ⟨OnlyL.refl _ _, rfl⟩
     ·intro gh ρ u hc hf1 hg1 hd h0 hb he ha hF
      replace hb : Below w2.heap.size w2 u := hb.drew.below (by decide +kernel)
      have hbz : w2.heap.size ≤ u.heap.size := hb.size
      have r26 : ρ (.tmp 26) = .int .i64 width := by have h := hF 0 (by decide +kernel) (by decide +kernel); rw [HF.out] at h; exact (hd 0 (by decide +kernel) 26 (by kernel_rfl)).trans h
      have r29 : ρ (.tmp 29) = .slice (some ⟨b, off, none⟩) h c := by have h := hF 3 (by decide +kernel) (by decide +kernel); rw [HF.out] at h; exact (hd 3 (by decide +kernel) 29 (by kernel_rfl)).trans h
      have r30 : ρ (.tmp 30) = .int .i64 (k : Nat) := by have h := hF 4 (by decide +kernel) (by decide +kernel); rw [HF.out] at h; exact (hd 4 (by decide +kernel) 30 (by kernel_rfl)).trans h
      have r31 : ρ (.tmp 31) = .bool wh := by have h := hF 5 (by decide +kernel) (by decide +kernel); rw [HF.out] at h; exact (hd 5 (by decide +kernel) 31 (by kernel_rfl)).trans h
      clear  hd h0 he ha hF
      go_simp
      refine (HI.out _ (HR1.out.below (below_then HB.out hb HB.out.size)).base).mono ?_
      rintro e u1 ⟨A1, c1, rfl, ho, hb1⟩
      rw [HF.out]
      exact ⟨_, rfl, OnlyL.of_below hb1, A1, c1, rfl, RowIn.of_row ho (fun k h1 h2 => .inl ⟨h1, h2⟩)⟩
     ·intro gh ρ u hc hf1 hg1 hd h0 hb he ha hF
      have r0 : ρ (.tmp 0) = .int .i64 width := (h0 0 (by decide +kernel)).trans rfl
      clear  hd h0 he ha hF
      go_simp
      rw [HF.out]
      exact ⟨OnlyL.refl _ _, rfl⟩
     ·intro gh ρ u hc hf1 hg1 hd h0 hb he ha hF
      have r1 : ρ (.tmp 1) = .slice (some ⟨b, off, none⟩) n c := (h0 1 (by decide +kernel)).trans rfl
      clear  hd h0 he ha hF
      go_simp
      rw [HF.out]
      exact ⟨OnlyL.refl _ _, rfl⟩
     ·intro gh ρ u hc hf1 hg1 hd h0 hb he ha hF
      have r10 : ρ (.tmp 10) = .int .i64 (h : Nat) := (h0 10 (by decide +kernel)).trans rfl
      clear  hd h0 he ha hF
      go_simp
      rw [HF.out]
      exact ⟨OnlyL.refl _ _, rfl⟩
     ·intro gh ρ u hc hf1 hg1 hd h0 hb he ha hF
      have r34 : ρ (.tmp 34) = .slice (some ⟨b, off, none⟩) n c := by have h := hF 8 (by decide +kernel) (by decide +kernel); rw [HF.out] at h; exact (hd 8 (by decide +kernel) 34 (by kernel_rfl)).trans h
      have r35 : ρ (.tmp 35) = .int .i64 (h : Nat) := by have h := hF 9 (by decide +kernel) (by decide +kernel); rw [HF.out] at h; exact (hd 9 (by decide +kernel) 35 (by kernel_rfl)).trans h
      clear  hd h0 he ha hF
      go_simp
      rw [HF.out]
      exact ⟨OnlyL.refl _ _, rfl⟩
     ·intro gh ρ u hc hf1 hg1 hd h0 hb he ha hF
      replace hb : Below w2.heap.size w2 u := hb.drew.below (by decide +kernel)
      have hbz : w2.heap.size ≤ u.heap.size := hb.size
      have r33 : ρ (.tmp 33) = .int .i64 width := by have h := hF 7 (by decide +kernel) (by decide +kernel); rw [HF.out] at h; exact (hd 7 (by decide +kernel) 33 (by kernel_rfl)).trans h
      have r36 : ρ (.tmp 36) = .slice (some ⟨b, off + h, none⟩) m (c - h) := by have h := hF 10 (by decide +kernel) (by decide +kernel); rw [HF.out] at h; exact (hd 10 (by decide +kernel) 36 (by kernel_rfl)).trans h
      clear  hd h0 he ha hF
      go_simp
      refine (HT.out _ (HR2.out.below (below_then HB.out hb HB.out.size)).base).mono ?_
      rintro e u1 ⟨rfl, hb1⟩
      rw [HF.out]
      exact ⟨_, rfl, OnlyL.of_below hb1, rfl⟩
     ·intro gh ρ u hc hf1 hg1 hd h0 hb he ha hF
      replace hb : Below w2.heap.size w2 u := hb.drew.below (by decide +kernel)
      have hbz : w2.heap.size ≤ u.heap.size := hb.size
      have r37 : ρ (.tmp 37) = .string r := by have h := hF 11 (by decide +kernel) (by decide +kernel); rw [HF.out] at h; exact (hd 11 (by decide +kernel) 37 (by kernel_rfl)).trans h
      clear  hd h0 he ha hF
      go_simp
      rw [HF.out]
      exact ⟨OnlyL.of_below ((Below.refl _ _).alloc (Nat.le_refl _) _), rfl, by simp, NewBox.new _ _ _⟩
     ·intro gh ρ u hc hf1 hg1 hd h0 hb he ha hF
      replace hb : Below w2.heap.size w2 u := hb.drew.below (by decide +kernel)
      have hbz : w2.heap.size ≤ u.heap.size := hb.size
      have f6 : ∃ (A1 : Option Addr) (c1 : Nat), (gh 6).v = .slice A1 q c1 ∧ (RowIn (inG (gh 6) []) u 9 1 (.slice A1 q c1) q (strs t)) := by have h := hF 6 (by decide +kernel) (by decide +kernel); rw [HF.out] at h; exact h
      obtain ⟨A1, c1, hv6, g6_0⟩ := f6
      have hrow6 := g6_0
      have r32 : ρ (.tmp 32) = .slice A1 q c1 := (hd 6 (by decide +kernel) 32 (by kernel_rfl)).trans hv6
      have f12 : (gh 12).v = .slice (some ⟨(gh 12).s, 0, none⟩) 1 1 ∧ (gh 12).s < (gh 12).e ∧ NewBox u (gh 12).s (strs [r]) := by have h := hF 12 (by decide +kernel) (by decide +kernel); rw [HF.out] at h; exact h
      obtain ⟨hv12, hlt12, hnb12⟩ := f12
      have r38 : ρ (.tmp 38) = .slice (some ⟨(gh 12).s, 0, none⟩) 1 1 := (hd 12 (by decide +kernel) 38 (by kernel_rfl)).trans hv12
      clear hv6 hv12 hd h0 he ha hF
      refine gapp1Str _ _ rfl _ (q) (strs t) r32 hrow6 _ r r38 hnb12 (by omega) ?_
      intro A' c' u' hrow hlt hg
      rw [HF.out]
      have hS : ∀ k, inG (gh 6) [] k → ∃ z ∈ ([6] : List Nat), (gh z).s ≤ k ∧ k < (gh z).e := by
       rintro k (h | ⟨t, ht, h⟩)
       ·exact ⟨6, by decide, h⟩
       ·cases ht
      refine ⟨⟨hg.os, hg.tape, hg.output, hg.size, fun k hk hd' _ => hg.block k hk (fun e => ?_)⟩, A', c', rfl, ?_⟩
      ·obtain ⟨z, hz, h1, h2⟩ := hS k (hrow6.at_ k e.symm); have := hd' (gh z) (List.mem_map.2 ⟨z, hz, rfl⟩); omega
      ·exact RowIn.widen hrow (fun k hk => .inr (let ⟨z, hz, h⟩ := hS k hk; ⟨gh z, List.mem_map.2 ⟨z, hz, rfl⟩, h⟩)) (fun e => .inl ⟨Nat.le_refl _, hlt _ e⟩)
     ·intro gh ρ u hc hf1 hg1 hd h0 hb he ha hF
      have f13 : ∃ (A3 : Option Addr) (c3 : Nat), (gh 13).v = .slice A3 (q + 1) c3 ∧ RowIn (inG (gh 13) [(gh 6)]) u 9 1 (.slice A3 (q + 1) c3) ((q + 1)) ((strs t ++ strs [r])) := by have h := hF 13 (by decide +kernel) (by decide +kernel); rw [HF.out] at h; exact h
      obtain ⟨A3, c3, hv13, hrow13⟩ := f13
      have hrt13 := hv13
      have r39 : ρ (.tmp 39) = .slice A3 (q + 1) c3 := (hd 13 (by decide +kernel) 39 (by kernel_rfl)).trans hv13
      have HRT13 := Lib.hid hrt13
      clear hv13 hrt13 hd h0 he ha hF
      go_simp
      rw [HF.out]
      exact ⟨OnlyL.refl _ _, A3, c3, HRT13.out, rfl⟩
     intro gh w3 hB hE hA hF
     replace hB : Below w2.heap.size w2 w3 := hB.below rfl
     have f0 : (gh 0).v = .int .i64 width := by have h := hF 0 (by decide +kernel) (by decide +kernel); rw [HF.out] at h; exact h
     have f1 : (gh 1).v = .slice (some ⟨b, off, none⟩) n c := by have h := hF 1 (by decide +kernel) (by decide +kernel); rw [HF.out] at h; exact h
     have f2 : (gh 2).v = .int .i64 (h : Nat) := by have h := hF 2 (by decide +kernel) (by decide +kernel); rw [HF.out] at h; exact h
     have f3 : (gh 3).v = .slice (some ⟨b, off, none⟩) h c := by have h := hF 3 (by decide +kernel) (by decide +kernel); rw [HF.out] at h; exact h
     have f4 : (gh 4).v = .int .i64 (k : Nat) := by have h := hF 4 (by decide +kernel) (by decide +kernel); rw [HF.out] at h; exact h
     have f5 : (gh 5).v = .bool wh := by have h := hF 5 (by decide +kernel) (by decide +kernel); rw [HF.out] at h; exact h
     have f7 : (gh 7).v = .int .i64 width := by have h := hF 7 (by decide +kernel) (by decide +kernel); rw [HF.out] at h; exact h
     have f8 : (gh 8).v = .slice (some ⟨b, off, none⟩) n c := by have h := hF 8 (by decide +kernel) (by decide +kernel); rw [HF.out] at h; exact h
     have f9 : (gh 9).v = .int .i64 (h : Nat) := by have h := hF 9 (by decide +kernel) (by decide +kernel); rw [HF.out] at h; exact h
     have f10 : (gh 10).v = .slice (some ⟨b, off + h, none⟩) m (c - h) := by have h := hF 10 (by decide +kernel) (by decide +kernel); rw [HF.out] at h; exact h
     have f11 : (gh 11).v = .string r := by have h := hF 11 (by decide +kernel) (by decide +kernel); rw [HF.out] at h; exact h
     have f12 : (gh 12).v = .slice (some ⟨(gh 12).s, 0, none⟩) 1 1 ∧ (gh 12).s < (gh 12).e ∧ NewBox w3 (gh 12).s (strs [r]) := by have h := hF 12 (by decide +kernel) (by decide +kernel); rw [HF.out] at h; exact h
     have f13 : ∃ (A3 : Option Addr) (c3 : Nat), (gh 13).v = .slice A3 (q + 1) c3 ∧ RowIn (inG (gh 13) [(gh 6)]) w3 9 1 (.slice A3 (q + 1) c3) ((q + 1)) ((strs t ++ strs [r])) := by have h := hF 13 (by decide +kernel) (by decide +kernel); rw [HF.out] at h; exact h
     have f14 : ∃ (A3 : Option Addr) (c3 : Nat), (gh 13).v = .slice A3 (q + 1) c3 ∧ (gh 14).v = .slice A3 (q + 1) c3 := by have h := hF 14 (by decide +kernel) (by decide +kernel); rw [HF.out] at h; exact h
     have hv11 := f11
     obtain ⟨A3, c3, hv13, hrow13⟩ := f13
     have hv0 := f0
     have hv1 := f1
     have hv2 := f2
     have hv3 := f3
     have hv4 := f4
     have hv5 := f5
     have hv7 := f7
     have hv8 := f8
     have hv9 := f9
     have hv10 := f10
     obtain ⟨hv12, -⟩ := f12
     obtain ⟨A3_14, c3_14, hu13, hv14⟩ := f14
     replace hu13 := hv13.symm.trans hu13
     simp at hu13
     try simp only [and_assoc] at hu13
     obtain ⟨rfl, rfl⟩ := hu13
     obtain ⟨hs6, hse6, he6⟩ := hE 6 (by decide +kernel)
     obtain ⟨hs13, hse13, he13⟩ := hE 13 (by decide +kernel)
     have hdj3_6_13 := hA 6 (by decide +kernel) 13 (by decide +kernel) (by decide)
     change w2.heap.size ≤ _ at hs6 hs13
     have hS : ∀ k, inG (gh 13) [gh 6] k → w2.heap.size ≤ k ∧ k < w3.heap.size := by
      rintro k (h | ⟨t, ht, h⟩)
      ·omega
      ·simp only [List.mem_cons, List.not_mem_nil, or_false] at ht
       rcases ht with rfl <;> omega
     have hrwr := hrow13.row
     obtain ⟨hrcr, hrnr, hror⟩ := hrow13.own hS (Nat.le_refl _)
     have hrbr := hrow13.based (fun k h => (hS k h).1)
     clear hS hrow13
     clear hE hA hF
     generalize (gh 6).v = vq6 at *
     simp only [putDs, Nat.reduceAdd, hv0, hv1, hv2, hv3, hv4, hv5, hv7, hv8, hv9, hv10, hv11, hv12, hv13, hv14]
     clear hv0 hv1 hv2 hv3 hv4 hv5 hv7 hv8 hv9 hv10 hv11 hv12 hv13 hv14
     generalize (gh 6).s = s3_6 at *
     generalize (gh 6).e = e3_6 at *
     generalize (gh 13).s = s3_13 at *
     generalize (gh 13).e = e3_13 at *
     clear HF
     have hb := hB
     clear hB
     have hzw3 : w2.heap.size ≤ w3.heap.size := hb.size
     have hzzw3 : w.heap.size ≤ w3.heap.size := by omega
     replace HB := Lib.hid (below_then HB.out hb HB.out.size)
     clear hb
     have HRB := Lib.hid hrbr
     clear hrbr hrnr hrwr hrcr hror
     go_wp2
     refine bodyPost_ret (v := .slice A3 (q + 1) c3) (by simp [results, Tryz.results170, go_sem]) rfl ?_
     rw [HW.out]
     refine ⟨A3, c3, by rw [HQ.out], ?_, HB.out⟩
     rw [HQ.out, strs_app]
     exact row_mono HRB.out (by omega)
    ·have HW := Lib.hid (cons_hi (width := width) (f := f) (wh := wh) hn hkl hlt)
     have hla : (l.take (halfN n)).length = halfN n := by rw [List.length_take]; omega
     have hlb : (l.drop (halfN n)).length = n - halfN n := by rw [List.length_drop, hn]
     have haa := areH_sub ha (fun s hs => List.mem_of_mem_take hs : ∀ s ∈ l.take (halfN n), s ∈ l)
     have hab := areH_sub ha (fun s hs => List.mem_of_mem_drop hs : ∀ s ∈ l.drop (halfN n), s ∈ l)
     have HRa : Hid (Rd w 0 w.heap.size (some ⟨b, off, none⟩) (strs (l.take (halfN n)))) := Lib.hid (hr.takeS _).base
     have HRb : Hid (Rd w 0 w.heap.size (some ⟨b, off + halfN n, none⟩) (strs (l.drop (halfN n)))) := Lib.hid (hr.dropS _).base
     obtain ⟨h, hh⟩ : ∃ h, h = halfN n := ⟨_, rfl⟩
     obtain ⟨m, hm⟩ : ∃ m, m = n - h := ⟨_, rfl⟩
     rw [← hh] at HW HH hla hlb haa hab HRa HRb k1 k2 k3 hlt
     rw [← hm] at hlb
     obtain ⟨kz, hk2⟩ : ∃ kz, kz = k - h := ⟨_, rfl⟩
     rw [← hk2] at HW
     have hql := cons_le (width := width) (f := f) (k := kz) (wh := false) hlb (by omega) (by omega) (by omega)
     have HI := Lib.hid (fun W (r : Rd W 0 W.heap.size (some ⟨b, off + h, none⟩) (strs (l.drop h))) => IH.out (some ⟨b, off + h, none⟩) (c - h) 0 W.heap.size m kz (l.drop h) false W r hlb (by omega) (by omega) (by omega) hab (by omega) (by omega))
     have HT := Lib.hid (fun W (r : Rd W 0 W.heap.size (some ⟨b, off, none⟩) (strs (l.take h))) => rootOf_c width hw 513 (some ⟨b, off, none⟩) c 0 W.heap.size h (l.take h) W r hla (by omega) (by omega) (by omega) haa)
     have HR1 := HRb
     have HR2 := HRa
     generalize consFu width f (l.drop h) kz false = t at *
     generalize rootFu width 513 (l.take h) = r at *
     have F1 : IntKind.i64.wrap ((k : Int) - h) = kz := by rw [IntKind.wrap_i64]; omega
     have F2 : (k : Int) - h = kz := by omega
     have F3 : IntKind.i64.wrap (kz : Int) = kz := by rw [IntKind.wrap_i64]; omega
     obtain ⟨q, hq⟩ : ∃ q, q = t.length := ⟨_, rfl⟩
     rw [← hq] at HI hql
     have HQ : Hid ((t ++ [r]).length = q + 1) := Lib.hid (by rw [hq, List.length_append]; rfl)
     have hq5 : q ≤ 512 := by omega
     have E1 : (h : Int) ≤ (n : Int) := by omega
     have E2 : (h : Int) ≤ (c : Int) := by omega
     have E3 : (n : Int) ≤ (c : Int) := by omega
     have E4 : ¬ (h : Int) = c := by omega
     have E5 : ¬ h = c := by omega
     have E9 : ¬ c = h := by omega
     have E10 : ¬ (c : Int) = h := by omega
     have E6 : (n : Int) - h = m := by omega
     have E7 : n - h = m := by omega
     have E8 : ((k : Int) == n) = false := beq_eq_false_iff_ne.2 (by omega)
     clear hq hh hm HRa HRb hr hn ha hks hcl hla hlb haa hab IH hw hk2
     have HB : Hid (Below w.heap.size w w) := Below.refl _ _
     go_enter Tryz.func170, Tryz.ntmps170
     go_wp2_with fail
     refine (HH.out _).mono ?_
     rintro e w1_ ⟨rfl, rfl⟩
     go_wp2_with fail
     refine wp_named (fun w2 hw => ?_)
     have hz2 : w.heap.size + 0 ≤ w2.heap.size := by rw [hw]; first | omega | (simp [World.setCell]; done) | (simp [World.setCell]; omega)
     have hbn : Below w.heap.size w w2 := by rw [hw]; exact (by ((repeat (first | ((with_reducible refine Below.alloc ?_ ?_ _); rotate_left 1; (focus (first | omega | (simp; done) | (simp; omega)))) | (with_reducible refine Below.drew ?_) | ((with_reducible refine Below.setCell ?_ ?_ _); rotate_left 1; (focus (first | omega | (simp; done) | (simp; omega)))))); exact Below.refl _ _))
     replace HB := Lib.hid (below_then HB.out hbn HB.out.size)
     clear hbn
     clear hw
     obtain ⟨F, HF⟩ : ∃ F : Facts, Hid (F = fun iq xq tqs dsq uq => match iq with
      | 0 => xq.v = .int .i64 width
      | 1 => xq.v = .slice (some ⟨b, off, none⟩) n c
      | 2 => xq.v = .int .i64 (h : Nat)
      | 3 => xq.v = .slice (some ⟨b, off + h, none⟩) m (c - h)
      | 4 => xq.v = .int .i64 (k : Nat)
      | 5 => xq.v = .int .i64 (h : Nat)
      | 6 => xq.v = .int .i64 (kz : Nat)
      | 7 => ∃ (A1 : Option Addr) (c1 : Nat), xq.v = .slice A1 q c1 ∧ (RowIn (inG xq []) uq 9 1 (.slice A1 q c1) q (strs t))
      | 8 => xq.v = .int .i64 width
      | 9 => xq.v = .slice (some ⟨b, off, none⟩) n c
      | 10 => xq.v = .int .i64 (h : Nat)
      | 11 => xq.v = .slice (some ⟨b, off, none⟩) h c
      | 12 => xq.v = .string r
      | 13 => xq.v = .slice (some ⟨xq.s, 0, none⟩) 1 1 ∧ xq.s < xq.e ∧ NewBox uq xq.s (strs [r])
      | 14 => (match tqs, dsq with | [tq0], [] => ∃ (A3 : Option Addr) (c3 : Nat), xq.v = .slice A3 (q + 1) c3 ∧ RowIn (inG xq [tq0]) uq 9 1 (.slice A3 (q + 1) c3) ((q + 1)) ((strs t ++ strs [r])) | _, _ => False)
      | 15 => (match tqs, dsq with | [], [yq0] => ∃ (A3 : Option Addr) (c3 : Nat), yq0.v = .slice A3 (q + 1) c3 ∧ xq.v = .slice A3 (q + 1) c3 | _, _ => False)
      | _ => False) := ⟨_, rfl⟩
     refine wp_region_facts [[], [], [], [], [], [], [], [], [], [], [], [], [], [], [], [14]] [[], [], [], [], [], [], [], [], [], [], [], [], [], [], [7], []] [some 40, some 41, some 42, some 43, some 44, some 45, some 46, some 47, some 48, some 49, some 50, some 51, some 52, some 53, some 54, some 8] none 0 0 (.inl rfl) F (by kernel_rfl) (by kernel_rfl) (by kernel_rfl) ?_ ⟨?_, ?_, ?_, ?_, ?_, ?_, ?_, ?_, ?_, ?_, ?_, ?_, ?_, ?_, ?_, ?_, trivial⟩ ?_
     ·rw [HF.out]; intro iq xq tqs dsq uq u' hi hf hs hW hx hbk
      have kx : ∀ b, xq.s ≤ b → b < xq.e → u'.heap[b]? = uq.heap[b]? := fun b h1 h2 => hbk b (.inr (.inl ⟨h1, h2⟩))
      have kt : ∀ t ∈ tqs, ∀ b, t.s ≤ b → b < t.e → u'.heap[b]? = uq.heap[b]? := fun t ht b h1 h2 => hbk b (.inr (.inr ⟨t, ht, h1, h2⟩))
      match iq with
      | 0 => exact hf
      | 1 => exact hf
      | 2 => exact hf
      | 3 => exact hf
      | 4 => exact hf
      | 5 => exact hf
      | 6 => exact hf
      | 7 => obtain ⟨A1, c1, hv, p0⟩ := hf; exact ⟨A1, c1, hv, p0.keep (fun k hk => hk.elim (fun h => kx k h.1 h.2) (fun ⟨t, ht, _⟩ => by cases ht))⟩
      | 8 => exact hf
      | 9 => exact hf
      | 10 => exact hf
      | 11 => exact hf
      | 12 => exact hf
      | 13 => obtain ⟨h1, h2, hb⟩ := hf; exact ⟨h1, h2, hb.keep hs (kx _ (Nat.le_refl _) h2)⟩
      | 14 => match tqs, dsq, hf with | [tq0], [], hf => obtain ⟨A3, c3, hv, p0⟩ := hf; exact ⟨A3, c3, hv, p0.keep (fun k hk => hk.elim (fun h => kx k h.1 h.2) (fun ⟨t, ht, h⟩ => kt t ht k h.1 h.2))⟩
      | 15 => exact hf
     ·intro gh ρ u hc hf1 hg1 hd h0 hb he ha hF
      have r0 : ρ (.tmp 0) = .int .i64 width := (h0 0 (by decide +kernel)).trans rfl
      clear  hd h0 he ha hF
      go_simp
      rw [HF.out]
      exact ⟨OnlyL.refl _ _, rfl⟩
     ·intro gh ρ u hc hf1 hg1 hd h0 hb he ha hF
      have r1 : ρ (.tmp 1) = .slice (some ⟨b, off, none⟩) n c := (h0 1 (by decide +kernel)).trans rfl
      clear  hd h0 he ha hF
      go_simp
      rw [HF.out]
      exact ⟨OnlyL.refl _ _, rfl⟩
     ·intro gh ρ u hc hf1 hg1 hd h0 hb he ha hF
      have r10 : ρ (.tmp 10) = .int .i64 (h : Nat) := (h0 10 (by decide +kernel)).trans rfl
      clear  hd h0 he ha hF
      go_simp
      rw [HF.out]
      exact ⟨OnlyL.refl _ _, rfl⟩
     ·intro gh ρ u hc hf1 hg1 hd h0 hb he ha hF
      have r41 : ρ (.tmp 41) = .slice (some ⟨b, off, none⟩) n c := by have h := hF 1 (by decide +kernel) (by decide +kernel); rw [HF.out] at h; exact (hd 1 (by decide +kernel) 41 (by kernel_rfl)).trans h
      have r42 : ρ (.tmp 42) = .int .i64 (h : Nat) := by have h := hF 2 (by decide +kernel) (by decide +kernel); rw [HF.out] at h; exact (hd 2 (by decide +kernel) 42 (by kernel_rfl)).trans h
      clear  hd h0 he ha hF
      go_simp
      rw [HF.out]
      exact ⟨OnlyL.refl _ _, rfl⟩
     ·intro gh ρ u hc hf1 hg1 hd h0 hb he ha hF
      have r2 : ρ (.tmp 2) = .int .i64 (k : Nat) := (h0 2 (by decide +kernel)).trans rfl
      clear  hd h0 he ha hF
      go_simp
      rw [HF.out]
      exact ⟨OnlyL.refl _ _, rfl⟩
     ·intro gh ρ u hc hf1 hg1 hd h0 hb he ha hF
      have r10 : ρ (.tmp 10) = .int .i64 (h : Nat) := (h0 10 (by decide +kernel)).trans rfl
      clear  hd h0 he ha hF
      go_simp
      rw [HF.out]
      exact ⟨OnlyL.refl _ _, rfl⟩
     ·intro gh ρ u hc hf1 hg1 hd h0 hb he ha hF
      have r44 : ρ (.tmp 44) = .int .i64 (k : Nat) := by have h := hF 4 (by decide +kernel) (by decide +kernel); rw [HF.out] at h; exact (hd 4 (by decide +kernel) 44 (by kernel_rfl)).trans h
      have r45 : ρ (.tmp 45) = .int .i64 (h : Nat) := by have h := hF 5 (by decide +kernel) (by decide +kernel); rw [HF.out] at h; exact (hd 5 (by decide +kernel) 45 (by kernel_rfl)).trans h
      clear  hd h0 he ha hF
      go_simp
      rw [HF.out]
      exact ⟨OnlyL.refl _ _, rfl⟩
     ·intro gh ρ u hc hf1 hg1 hd h0 hb he ha hF
      replace hb : Below w2.heap.size w2 u := hb.drew.below (by decide +kernel)
      have hbz : w2.heap.size ≤ u.heap.size := hb.size
      have r40 : ρ (.tmp 40) = .int .i64 width := by have h := hF 0 (by decide +kernel) (by decide +kernel); rw [HF.out] at h; exact (hd 0 (by decide +kernel) 40 (by kernel_rfl)).trans h
      have r43 : ρ (.tmp 43) = .slice (some ⟨b, off + h, none⟩) m (c - h) := by have h := hF 3 (by decide +kernel) (by decide +kernel); rw [HF.out] at h; exact (hd 3 (by decide +kernel) 43 (by kernel_rfl)).trans h
      have r46 : ρ (.tmp 46) = .int .i64 (kz : Nat) := by have h := hF 6 (by decide +kernel) (by decide +kernel); rw [HF.out] at h; exact (hd 6 (by decide +kernel) 46 (by kernel_rfl)).trans h
      clear  hd h0 he ha hF
      go_simp
      refine (HI.out _ (HR1.out.below (below_then HB.out hb HB.out.size)).base).mono ?_
      rintro e u1 ⟨A1, c1, rfl, ho, hb1⟩
      rw [HF.out]
      exact ⟨_, rfl, OnlyL.of_below hb1, A1, c1, rfl, RowIn.of_row ho (fun k h1 h2 => .inl ⟨h1, h2⟩)⟩
     ·intro gh ρ u hc hf1 hg1 hd h0 hb he ha hF
      have r0 : ρ (.tmp 0) = .int .i64 width := (h0 0 (by decide +kernel)).trans rfl
      clear  hd h0 he ha hF
      go_simp
      rw [HF.out]
      exact ⟨OnlyL.refl _ _, rfl⟩
     ·intro gh ρ u hc hf1 hg1 hd h0 hb he ha hF
      have r1 : ρ (.tmp 1) = .slice (some ⟨b, off, none⟩) n c := (h0 1 (by decide +kernel)).trans rfl
      clear  hd h0 he ha hF
      go_simp
      rw [HF.out]
      exact ⟨OnlyL.refl _ _, rfl⟩
     ·intro gh ρ u hc hf1 hg1 hd h0 hb he ha hF
      have r10 : ρ (.tmp 10) = .int .i64 (h : Nat) := (h0 10 (by decide +kernel)).trans rfl
      clear  hd h0 he ha hF
      go_simp
      rw [HF.out]
      exact ⟨OnlyL.refl _ _, rfl⟩
     ·intro gh ρ u hc hf1 hg1 hd h0 hb he ha hF
      have r49 : ρ (.tmp 49) = .slice (some ⟨b, off, none⟩) n c := by have h := hF 9 (by decide +kernel) (by decide +kernel); rw [HF.out] at h; exact (hd 9 (by decide +kernel) 49 (by kernel_rfl)).trans h
      have r50 : ρ (.tmp 50) = .int .i64 (h : Nat) := by have h := hF 10 (by decide +kernel) (by decide +kernel); rw [HF.out] at h; exact (hd 10 (by decide +kernel) 50 (by kernel_rfl)).trans h
      clear  hd h0 he ha hF
      go_simp
      rw [HF.out]
      exact ⟨OnlyL.refl _ _, rfl⟩
     ·intro gh ρ u hc hf1 hg1 hd h0 hb he ha hF
      replace hb : Below w2.heap.size w2 u := hb.drew.below (by decide +kernel)
      have hbz : w2.heap.size ≤ u.heap.size := hb.size
      have r48 : ρ (.tmp 48) = .int .i64 width := by have h := hF 8 (by decide +kernel) (by decide +kernel); rw [HF.out] at h; exact (hd 8 (by decide +kernel) 48 (by kernel_rfl)).trans h
      have r51 : ρ (.tmp 51) = .slice (some ⟨b, off, none⟩) h c := by have h := hF 11 (by decide +kernel) (by decide +kernel); rw [HF.out] at h; exact (hd 11 (by decide +kernel) 51 (by kernel_rfl)).trans h
      clear  hd h0 he ha hF
      go_simp
      refine (HT.out _ (HR2.out.below (below_then HB.out hb HB.out.size)).base).mono ?_
      rintro e u1 ⟨rfl, hb1⟩
      rw [HF.out]
      exact ⟨_, rfl, OnlyL.of_below hb1, rfl⟩
     ·intro gh ρ u hc hf1 hg1 hd h0 hb he ha hF
      replace hb : Below w2.heap.size w2 u := hb.drew.below (by decide +kernel)
      have hbz : w2.heap.size ≤ u.heap.size := hb.size
      have r52 : ρ (.tmp 52) = .string r := by have h := hF 12 (by decide +kernel) (by decide +kernel); rw [HF.out] at h; exact (hd 12 (by decide +kernel) 52 (by kernel_rfl)).trans h
      clear  hd h0 he ha hF
      go_simp
      rw [HF.out]
      exact ⟨OnlyL.of_below ((Below.refl _ _).alloc (Nat.le_refl _) _), rfl, by simp, NewBox.new _ _ _⟩
     ·intro gh ρ u hc hf1 hg1 hd h0 hb he ha hF
      replace hb : Below w2.heap.size w2 u := hb.drew.below (by decide +kernel)
      have hbz : w2.heap.size ≤ u.heap.size := hb.size
      have f7 : ∃ (A1 : Option Addr) (c1 : Nat), (gh 7).v = .slice A1 q c1 ∧ (RowIn (inG (gh 7) []) u 9 1 (.slice A1 q c1) q (strs t)) := by have h := hF 7 (by decide +kernel) (by decide +kernel); rw [HF.out] at h; exact h
      obtain ⟨A1, c1, hv7, g7_0⟩ := f7
      have hrow7 := g7_0
      have r47 : ρ (.tmp 47) = .slice A1 q c1 := (hd 7 (by decide +kernel) 47 (by kernel_rfl)).trans hv7
      have f13 : (gh 13).v = .slice (some ⟨(gh 13).s, 0, none⟩) 1 1 ∧ (gh 13).s < (gh 13).e ∧ NewBox u (gh 13).s (strs [r]) := by have h := hF 13 (by decide +kernel) (by decide +kernel); rw [HF.out] at h; exact h
      obtain ⟨hv13, hlt13, hnb13⟩ := f13
      have r53 : ρ (.tmp 53) = .slice (some ⟨(gh 13).s, 0, none⟩) 1 1 := (hd 13 (by decide +kernel) 53 (by kernel_rfl)).trans hv13
      clear hv7 hv13 hd h0 he ha hF
      refine gapp1Str _ _ rfl _ (q) (strs t) r47 hrow7 _ r r53 hnb13 (by omega) ?_
      intro A' c' u' hrow hlt hg
      rw [HF.out]
      have hS : ∀ k, inG (gh 7) [] k → ∃ z ∈ ([7] : List Nat), (gh z).s ≤ k ∧ k < (gh z).e := by
       rintro k (h | ⟨t, ht, h⟩)
       ·exact ⟨7, by decide, h⟩
       ·cases ht
      refine ⟨⟨hg.os, hg.tape, hg.output, hg.size, fun k hk hd' _ => hg.block k hk (fun e => ?_)⟩, A', c', rfl, ?_⟩
      ·obtain ⟨z, hz, h1, h2⟩ := hS k (hrow7.at_ k e.symm); have := hd' (gh z) (List.mem_map.2 ⟨z, hz, rfl⟩); omega
      ·exact RowIn.widen hrow (fun k hk => .inr (let ⟨z, hz, h⟩ := hS k hk; ⟨gh z, List.mem_map.2 ⟨z, hz, rfl⟩, h⟩)) (fun e => .inl ⟨Nat.le_refl _, hlt _ e⟩)
     ·intro gh ρ u hc hf1 hg1 hd h0 hb he ha hF
      have f14 : ∃ (A3 : Option Addr) (c3 : Nat), (gh 14).v = .slice A3 (q + 1) c3 ∧ RowIn (inG (gh 14) [(gh 7)]) u 9 1 (.slice A3 (q + 1) c3) ((q + 1)) ((strs t ++ strs [r])) := by have h := hF 14 (by decide +kernel) (by decide +kernel); rw [HF.out] at h; exact h
      obtain ⟨A3, c3, hv14, hrow14⟩ := f14
      have hrt14 := hv14
      have r54 : ρ (.tmp 54) = .slice A3 (q + 1) c3 := (hd 14 (by decide +kernel) 54 (by kernel_rfl)).trans hv14
      have HRT14 := Lib.hid hrt14
      clear hv14 hrt14 hd h0 he ha hF
      go_simp
      rw [HF.out]
      exact ⟨OnlyL.refl _ _, A3, c3, HRT14.out, rfl⟩
     intro gh w3 hB hE hA hF
     replace hB : Below w2.heap.size w2 w3 := hB.below rfl
     have f0 : (gh 0).v = .int .i64 width := by have h := hF 0 (by decide +kernel) (by decide +kernel); rw [HF.out] at h; exact h
     have f1 : (gh 1).v = .slice (some ⟨b, off, none⟩) n c := by have h := hF 1 (by decide +kernel) (by decide +kernel); rw [HF.out] at h; exact h
     have f2 : (gh 2).v = .int .i64 (h : Nat) := by have h := hF 2 (by decide +kernel) (by decide +kernel); rw [HF.out] at h; exact h
     have f3 : (gh 3).v = .slice (some ⟨b, off + h, none⟩) m (c - h) := by have h := hF 3 (by decide +kernel) (by decide +kernel); rw [HF.out] at h; exact h
     have f4 : (gh 4).v = .int .i64 (k : Nat) := by have h := hF 4 (by decide +kernel) (by decide +kernel); rw [HF.out] at h; exact h
     have f5 : (gh 5).v = .int .i64 (h : Nat) := by have h := hF 5 (by decide +kernel) (by decide +kernel); rw [HF.out] at h; exact h
     have f6 : (gh 6).v = .int .i64 (kz : Nat) := by have h := hF 6 (by decide +kernel) (by decide +kernel); rw [HF.out] at h; exact h
     have f8 : (gh 8).v = .int .i64 width := by have h := hF 8 (by decide +kernel) (by decide +kernel); rw [HF.out] at h; exact h
     have f9 : (gh 9).v = .slice (some ⟨b, off, none⟩) n c := by have h := hF 9 (by decide +kernel) (by decide +kernel); rw [HF.out] at h; exact h
     have f10 : (gh 10).v = .int .i64 (h : Nat) := by have h := hF 10 (by decide +kernel) (by decide +kernel); rw [HF.out] at h; exact h
     have f11 : (gh 11).v = .slice (some ⟨b, off, none⟩) h c := by have h := hF 11 (by decide +kernel) (by decide +kernel); rw [HF.out] at h; exact h
     have f12 : (gh 12).v = .string r := by have h := hF 12 (by decide +kernel) (by decide +kernel); rw [HF.out] at h; exact h
     have f13 : (gh 13).v = .slice (some ⟨(gh 13).s, 0, none⟩) 1 1 ∧ (gh 13).s < (gh 13).e ∧ NewBox w3 (gh 13).s (strs [r]) := by have h := hF 13 (by decide +kernel) (by decide +kernel); rw [HF.out] at h; exact h
     have f14 : ∃ (A3 : Option Addr) (c3 : Nat), (gh 14).v = .slice A3 (q + 1) c3 ∧ RowIn (inG (gh 14) [(gh 7)]) w3 9 1 (.slice A3 (q + 1) c3) ((q + 1)) ((strs t ++ strs [r])) := by have h := hF 14 (by decide +kernel) (by decide +kernel); rw [HF.out] at h; exact h
     have f15 : ∃ (A3 : Option Addr) (c3 : Nat), (gh 14).v = .slice A3 (q + 1) c3 ∧ (gh 15).v = .slice A3 (q + 1) c3 := by have h := hF 15 (by decide +kernel) (by decide +kernel); rw [HF.out] at h; exact h
     have hv12 := f12
     obtain ⟨A3, c3, hv14, hrow14⟩ := f14
     have hv0 := f0
     have hv1 := f1
     have hv2 := f2
     have hv3 := f3
     have hv4 := f4
     have hv5 := f5
     have hv6 := f6
     have hv8 := f8
     have hv9 := f9
     have hv10 := f10
     have hv11 := f11
     obtain ⟨hv13, -⟩ := f13
     obtain ⟨A3_15, c3_15, hu14, hv15⟩ := f15
     replace hu14 := hv14.symm.trans hu14
     simp at hu14
     try simp only [and_assoc] at hu14
     obtain ⟨rfl, rfl⟩ := hu14
     obtain ⟨hs7, hse7, he7⟩ := hE 7 (by decide +kernel)
     obtain ⟨hs14, hse14, he14⟩ := hE 14 (by decide +kernel)
     have hdj3_7_14 := hA 7 (by decide +kernel) 14 (by decide +kernel) (by decide)
     change w2.heap.size ≤ _ at hs7 hs14
     have hS : ∀ k, inG (gh 14) [gh 7] k → w2.heap.size ≤ k ∧ k < w3.heap.size := by
      rintro k (h | ⟨t, ht, h⟩)
      ·omega
      ·simp only [List.mem_cons, List.not_mem_nil, or_false] at ht
       rcases ht with rfl <;> omega
     have hrwr := hrow14.row
     obtain ⟨hrcr, hrnr, hror⟩ := hrow14.own hS (Nat.le_refl _)
     have hrbr := hrow14.based (fun k h => (hS k h).1)
     clear hS hrow14
     clear hE hA hF
     generalize (gh 7).v = vq7 at *
     simp only [putDs, Nat.reduceAdd, hv0, hv1, hv2, hv3, hv4, hv5, hv6, hv8, hv9, hv10, hv11, hv12, hv13, hv14, hv15]
     clear hv0 hv1 hv2 hv3 hv4 hv5 hv6 hv8 hv9 hv10 hv11 hv12 hv13 hv14 hv15
     generalize (gh 7).s = s3_7 at *
     generalize (gh 7).e = e3_7 at *
     generalize (gh 14).s = s3_14 at *
     generalize (gh 14).e = e3_14 at *
     clear HF
     have hb := hB
     clear hB
     have hzw3 : w2.heap.size ≤ w3.heap.size := hb.size
     have hzzw3 : w.heap.size ≤ w3.heap.size := by omega
     replace HB := Lib.hid (below_then HB.out hb HB.out.size)
     clear hb
     have HRB := Lib.hid hrbr
     clear hrbr hrnr hrwr hrcr hror
     go_wp2
     refine bodyPost_ret (v := .slice A3 (q + 1) c3) (by simp [results, Tryz.results170, go_sem]) rfl ?_
     rw [HW.out]
     refine ⟨A3, c3, by rw [HQ.out], ?_, HB.out⟩
     rw [HQ.out, strs_app]
     exact row_mono HRB.out (by omega)
   ·obtain rfl : k = n := by omega
    rcases wh with _ | _
    ·have HW := Lib.hid (cons_end (width := width) (f := f) hn).2
     have HT := Lib.hid (fun W (r : Rd W 0 W.heap.size (some ⟨b, off, none⟩) (strs l)) => rootOf_c width hw 513 (some ⟨b, off, none⟩) c 0 W.heap.size k l W r hn h5 (by omega) hc ha)
     have HR := Lib.hid hr.base
     generalize rootFu width 513 l = r at *
     clear hr hn ha hks hcl IH hw
     go_enter Tryz.func170, Tryz.ntmps170
     go_wp2_with fail
     refine (HT.out _ HR.out).mono ?_
     rintro e w1 ⟨rfl, hb1⟩
     have HB1 := Lib.hid hb1
     have hs1 := hb1.size
     clear hb1
     go_wp2
     refine bodyPost_named (fun w2 hw2 => ?_)
     have hB : Below w.heap.size w w2 := by rw [hw2]; exact HB1.out.alloc (by omega) _
     have hR : w2.ownsRow w.heap.size 9 1 (.slice (some ⟨w1.heap.size, 0, none⟩) 1 1) 1 (strs [r]) := by
      rw [hw2]; exact ⟨rfl, .inr ⟨w1.heap.size, 1, #[.string r], rfl, hs1, heap_alloc_new w1 _, Nat.le_refl _, by unfold maxLen; omega, rfl, rfl⟩⟩
     have HR2 := Lib.hid hR
     have HB2 := Lib.hid hB
     clear hw2 hB hR
     go_ret
     rw [HW.out]
     exact ⟨_, _, rfl, HR2.out, HB2.out⟩
    ·have HW := Lib.hid (cons_end (width := width) (f := f) hn).1
     clear hr hn ha hks hcl IH hw
     go_enter Tryz.func170, Tryz.ntmps170
     go_wp2
     go_ret
     rw [HW.out]
     exact ⟨none, 0, rfl, World.ownsRow_nil _ _ _ _, Below.refl _ _⟩
set_option maxRecDepth 100000 in
set_option maxHeartbeats 400000 in
theorem l05Consistency_c (width : Int) (hw : inR width 1 32 = true) : ∀ (f : Nat) (A : Option Addr) (c lo hi n k : Nat) (l : List ByteArray) (wh : Bool) (w : World), Rd w lo hi A (strs l) → l.length = n → n ≤ 512 → n < f → n ≤ c → areH width l = true → 1 ≤ k → k ≤ n →
  Calls Tryz.prog 169 #[.int .i64 width, .slice A n c, .int .i64 k, .bool wh] w fun e w' => ∃ A' c', e = .returned (.slice A' (consFu width f l k wh).length c') ∧
   w'.ownsRow w.heap.size 9 1 (.slice A' (consFu width f l k wh).length c') (consFu width f l k wh).length (strs (consFu width f l k wh)) ∧ Below w.heap.size w w'
 | 0, A, c, lo, hi, n, k, l, wh, w, hr, hn, h5, hf, hc, ha, h1, hkn => by omega
 | f + 1, A, c, lo, hi, n, k, l, wh, w, hr, hn, h5, hf, hc, ha, h1, hkn => by
   have IH := Lib.hid (l05Consistency_c width hw f)
   obtain ⟨b, off, s, rfl, hb, hks, hcl⟩ := hr.str (k := 0) (by omega)
   rcases Nat.lt_or_ge k n with hkl | hkl
   ·have HH := Lib.hid (fun W => specHalfOf_c n W (by omega) h5)
    obtain ⟨k1, k2, k3⟩ := halfN_bd (n := n) (by omega) h5
    by_cases hlt : k ≤ halfN n
    ·have HW := Lib.hid (cons_lo (width := width) (f := f) (wh := wh) hn hkl hlt)
     have hla : (l.take (halfN n)).length = halfN n := by rw [List.length_take]; omega
     have hlb : (l.drop (halfN n)).length = n - halfN n := by rw [List.length_drop, hn]
     have haa := areH_sub ha (fun s hs => List.mem_of_mem_take hs : ∀ s ∈ l.take (halfN n), s ∈ l)
     have hab := areH_sub ha (fun s hs => List.mem_of_mem_drop hs : ∀ s ∈ l.drop (halfN n), s ∈ l)
     have HRa : Hid (Rd w 0 w.heap.size (some ⟨b, off, none⟩) (strs (l.take (halfN n)))) := Lib.hid (hr.takeS _).base
     have HRb : Hid (Rd w 0 w.heap.size (some ⟨b, off + halfN n, none⟩) (strs (l.drop (halfN n)))) := Lib.hid (hr.dropS _).base
     obtain ⟨h, hh⟩ : ∃ h, h = halfN n := ⟨_, rfl⟩
     obtain ⟨m, hm⟩ : ∃ m, m = n - h := ⟨_, rfl⟩
     rw [← hh] at HW HH hla hlb haa hab HRa HRb k1 k2 k3 hlt
     rw [← hm] at hlb
     have hql := cons_le (width := width) (f := f) (k := k) (wh := wh) hla h1 hlt (by omega)
     have HI := Lib.hid (fun W (r : Rd W 0 W.heap.size (some ⟨b, off, none⟩) (strs (l.take h))) => IH.out (some ⟨b, off, none⟩) c 0 W.heap.size h k (l.take h) wh W r hla (by omega) (by omega) (by omega) haa h1 hlt)
     have HT := Lib.hid (fun W (r : Rd W 0 W.heap.size (some ⟨b, off + h, none⟩) (strs (l.drop h))) => l05Root_c width hw 513 (some ⟨b, off + h, none⟩) (c - h) 0 W.heap.size m (l.drop h) W r hlb (by omega) (by omega) (by omega) hab)
     have HR1 := HRa
     have HR2 := HRb
     generalize consFu width f (l.take h) k wh = t at *
     generalize rootFu width 513 (l.drop h) = r at *
     obtain ⟨q, hq⟩ : ∃ q, q = t.length := ⟨_, rfl⟩
     rw [← hq] at HI hql
     have HQ : Hid ((t ++ [r]).length = q + 1) := Lib.hid (by rw [hq, List.length_append]; rfl)
     have hq5 : q ≤ 512 := by omega
     have E1 : (h : Int) ≤ (n : Int) := by omega
     have E2 : (h : Int) ≤ (c : Int) := by omega
     have E3 : (n : Int) ≤ (c : Int) := by omega
     have E4 : ¬ (h : Int) = c := by omega
     have E5 : ¬ h = c := by omega
     have E9 : ¬ c = h := by omega
     have E10 : ¬ (c : Int) = h := by omega
     have E6 : (n : Int) - h = m := by omega
     have E7 : n - h = m := by omega
     have E8 : ((k : Int) == n) = false := beq_eq_false_iff_ne.2 (by omega)
     clear hq hh hm HRa HRb hr hn ha hks hcl hla hlb haa hab IH hw
     have HB : Hid (Below w.heap.size w w) := Below.refl _ _
     go_enter Tryz.func169, Tryz.ntmps169
     go_wp2_with fail
     refine (HH.out _).mono ?_
     rintro e w1_ ⟨rfl, rfl⟩
     go_wp2_with fail
     refine wp_named (fun w2 hw => ?_)
     have hz2 : w.heap.size + 0 ≤ w2.heap.size := by rw [hw]; first | omega | (simp [World.setCell]; done) | (simp [World.setCell]; omega)
     have hbn : Below w.heap.size w w2 := by rw [hw]; exact (by ((repeat (first | ((with_reducible refine Below.alloc ?_ ?_ _); rotate_left 1; (focus (first | omega | (simp; done) | (simp; omega)))) | (with_reducible refine Below.drew ?_) | ((with_reducible refine Below.setCell ?_ ?_ _); rotate_left 1; (focus (first | omega | (simp; done) | (simp; omega)))))); exact Below.refl _ _))
     replace HB := Lib.hid (below_then HB.out hbn HB.out.size)
     clear hbn
     clear hw
     obtain ⟨F, HF⟩ : ∃ F : Facts, Hid (F = fun iq xq tqs dsq uq => match iq with
      | 0 => xq.v = .int .i64 width
      | 1 => xq.v = .slice (some ⟨b, off, none⟩) n c
      | 2 => xq.v = .int .i64 (h : Nat)
      | 3 => xq.v = .slice (some ⟨b, off, none⟩) h c
      | 4 => xq.v = .int .i64 (k : Nat)
      | 5 => xq.v = .bool wh
      | 6 => ∃ (A1 : Option Addr) (c1 : Nat), xq.v = .slice A1 q c1 ∧ (RowIn (inG xq []) uq 9 1 (.slice A1 q c1) q (strs t))
      | 7 => xq.v = .int .i64 width
      | 8 => xq.v = .slice (some ⟨b, off, none⟩) n c
      | 9 => xq.v = .int .i64 (h : Nat)
      | 10 => xq.v = .slice (some ⟨b, off + h, none⟩) m (c - h)
      | 11 => xq.v = .string r
      | 12 => xq.v = .slice (some ⟨xq.s, 0, none⟩) 1 1 ∧ xq.s < xq.e ∧ NewBox uq xq.s (strs [r])
      | 13 => (match tqs, dsq with | [tq0], [] => ∃ (A3 : Option Addr) (c3 : Nat), xq.v = .slice A3 (q + 1) c3 ∧ RowIn (inG xq [tq0]) uq 9 1 (.slice A3 (q + 1) c3) ((q + 1)) ((strs t ++ strs [r])) | _, _ => False)
      | 14 => (match tqs, dsq with | [], [yq0] => ∃ (A3 : Option Addr) (c3 : Nat), yq0.v = .slice A3 (q + 1) c3 ∧ xq.v = .slice A3 (q + 1) c3 | _, _ => False)
      | _ => False) := ⟨_, rfl⟩
     refine wp_region_facts [[], [], [], [], [], [], [], [], [], [], [], [], [], [], [13]] [[], [], [], [], [], [], [], [], [], [], [], [], [], [6], []] [some 27, some 28, some 29, some 30, some 31, some 32, some 33, some 34, some 35, some 36, some 37, some 38, some 39, some 40, some 8] none 0 0 (.inl rfl) F (by kernel_rfl) (by kernel_rfl) (by kernel_rfl) ?_ ⟨?_, ?_, ?_, ?_, ?_, ?_, ?_, ?_, ?_, ?_, ?_, ?_, ?_, ?_, ?_, trivial⟩ ?_
     ·rw [HF.out]; intro iq xq tqs dsq uq u' hi hf hs hW hx hbk
      have kx : ∀ b, xq.s ≤ b → b < xq.e → u'.heap[b]? = uq.heap[b]? := fun b h1 h2 => hbk b (.inr (.inl ⟨h1, h2⟩))
      have kt : ∀ t ∈ tqs, ∀ b, t.s ≤ b → b < t.e → u'.heap[b]? = uq.heap[b]? := fun t ht b h1 h2 => hbk b (.inr (.inr ⟨t, ht, h1, h2⟩))
      match iq with
      | 0 => exact hf
      | 1 => exact hf
      | 2 => exact hf
      | 3 => exact hf
      | 4 => exact hf
      | 5 => exact hf
      | 6 => obtain ⟨A1, c1, hv, p0⟩ := hf; exact ⟨A1, c1, hv, p0.keep (fun k hk => hk.elim (fun h => kx k h.1 h.2) (fun ⟨t, ht, _⟩ => by cases ht))⟩
      | 7 => exact hf
      | 8 => exact hf
      | 9 => exact hf
      | 10 => exact hf
      | 11 => exact hf
      | 12 => obtain ⟨h1, h2, hb⟩ := hf; exact ⟨h1, h2, hb.keep hs (kx _ (Nat.le_refl _) h2)⟩
      | 13 => match tqs, dsq, hf with | [tq0], [], hf => obtain ⟨A3, c3, hv, p0⟩ := hf; exact ⟨A3, c3, hv, p0.keep (fun k hk => hk.elim (fun h => kx k h.1 h.2) (fun ⟨t, ht, h⟩ => kt t ht k h.1 h.2))⟩
      | 14 => exact hf
     ·intro gh ρ u hc hf1 hg1 hd h0 hb he ha hF
      have r0 : ρ (.tmp 0) = .int .i64 width := (h0 0 (by decide +kernel)).trans rfl
      clear  hd h0 he ha hF
      go_simp
      rw [HF.out]
      exact ⟨OnlyL.refl _ _, rfl⟩
     ·intro gh ρ u hc hf1 hg1 hd h0 hb he ha hF
      have r1 : ρ (.tmp 1) = .slice (some ⟨b, off, none⟩) n c := (h0 1 (by decide +kernel)).trans rfl
      clear  hd h0 he ha hF
      go_simp
      rw [HF.out]
      exact ⟨OnlyL.refl _ _, rfl⟩
     ·intro gh ρ u hc hf1 hg1 hd h0 hb he ha hF
      have r10 : ρ (.tmp 10) = .int .i64 (h : Nat) := (h0 10 (by decide +kernel)).trans rfl
      clear  hd h0 he ha hF
      go_simp
      rw [HF.out]
      exact ⟨OnlyL.refl _ _, rfl⟩
     ·intro gh ρ u hc hf1 hg1 hd h0 hb he ha hF
      have r28 : ρ (.tmp 28) = .slice (some ⟨b, off, none⟩) n c := by have h := hF 1 (by decide +kernel) (by decide +kernel); rw [HF.out] at h; exact (hd 1 (by decide +kernel) 28 (by kernel_rfl)).trans h
      have r29 : ρ (.tmp 29) = .int .i64 (h : Nat) := by have h := hF 2 (by decide +kernel) (by decide +kernel); rw [HF.out] at h; exact (hd 2 (by decide +kernel) 29 (by kernel_rfl)).trans h
      clear  hd h0 he ha hF
      go_simp
      rw [HF.out]
      exact ⟨OnlyL.refl _ _, rfl⟩
     ·intro gh ρ u hc hf1 hg1 hd h0 hb he ha hF
      have r2 : ρ (.tmp 2) = .int .i64 (k : Nat) := (h0 2 (by decide +kernel)).trans rfl
      clear  hd h0 he ha hF
      go_simp
      rw [HF.out]
      exact ⟨OnlyL.refl _ _, rfl⟩
     ·intro gh ρ u hc hf1 hg1 hd h0 hb he ha hF
      have r3 : ρ (.tmp 3) = .bool wh := (h0 3 (by decide +kernel)).trans rfl
      clear  hd h0 he ha hF
      go_simp
      rw [HF.out]
      exact ⟨OnlyL.refl _ _, rfl⟩
     ·intro gh ρ u hc hf1 hg1 hd h0 hb he ha hF
      replace hb : Below w2.heap.size w2 u := hb.drew.below (by decide +kernel)
      have hbz : w2.heap.size ≤ u.heap.size := hb.size
      have r27 : ρ (.tmp 27) = .int .i64 width := by have h := hF 0 (by decide +kernel) (by decide +kernel); rw [HF.out] at h; exact (hd 0 (by decide +kernel) 27 (by kernel_rfl)).trans h
      have r30 : ρ (.tmp 30) = .slice (some ⟨b, off, none⟩) h c := by have h := hF 3 (by decide +kernel) (by decide +kernel); rw [HF.out] at h; exact (hd 3 (by decide +kernel) 30 (by kernel_rfl)).trans h
      have r31 : ρ (.tmp 31) = .int .i64 (k : Nat) := by have h := hF 4 (by decide +kernel) (by decide +kernel); rw [HF.out] at h; exact (hd 4 (by decide +kernel) 31 (by kernel_rfl)).trans h
      have r32 : ρ (.tmp 32) = .bool wh := by have h := hF 5 (by decide +kernel) (by decide +kernel); rw [HF.out] at h; exact (hd 5 (by decide +kernel) 32 (by kernel_rfl)).trans h
      clear  hd h0 he ha hF
      go_simp
      refine (HI.out _ (HR1.out.below (below_then HB.out hb HB.out.size)).base).mono ?_
      rintro e u1 ⟨A1, c1, rfl, ho, hb1⟩
      rw [HF.out]
      exact ⟨_, rfl, OnlyL.of_below hb1, A1, c1, rfl, RowIn.of_row ho (fun k h1 h2 => .inl ⟨h1, h2⟩)⟩
     ·intro gh ρ u hc hf1 hg1 hd h0 hb he ha hF
      have r0 : ρ (.tmp 0) = .int .i64 width := (h0 0 (by decide +kernel)).trans rfl
      clear  hd h0 he ha hF
      go_simp
      rw [HF.out]
      exact ⟨OnlyL.refl _ _, rfl⟩
     ·intro gh ρ u hc hf1 hg1 hd h0 hb he ha hF
      have r1 : ρ (.tmp 1) = .slice (some ⟨b, off, none⟩) n c := (h0 1 (by decide +kernel)).trans rfl
      clear  hd h0 he ha hF
      go_simp
      rw [HF.out]
      exact ⟨OnlyL.refl _ _, rfl⟩
     ·intro gh ρ u hc hf1 hg1 hd h0 hb he ha hF
      have r10 : ρ (.tmp 10) = .int .i64 (h : Nat) := (h0 10 (by decide +kernel)).trans rfl
      clear  hd h0 he ha hF
      go_simp
      rw [HF.out]
      exact ⟨OnlyL.refl _ _, rfl⟩
     ·intro gh ρ u hc hf1 hg1 hd h0 hb he ha hF
      have r35 : ρ (.tmp 35) = .slice (some ⟨b, off, none⟩) n c := by have h := hF 8 (by decide +kernel) (by decide +kernel); rw [HF.out] at h; exact (hd 8 (by decide +kernel) 35 (by kernel_rfl)).trans h
      have r36 : ρ (.tmp 36) = .int .i64 (h : Nat) := by have h := hF 9 (by decide +kernel) (by decide +kernel); rw [HF.out] at h; exact (hd 9 (by decide +kernel) 36 (by kernel_rfl)).trans h
      clear  hd h0 he ha hF
      go_simp
      rw [HF.out]
      exact ⟨OnlyL.refl _ _, rfl⟩
     ·intro gh ρ u hc hf1 hg1 hd h0 hb he ha hF
      replace hb : Below w2.heap.size w2 u := hb.drew.below (by decide +kernel)
      have hbz : w2.heap.size ≤ u.heap.size := hb.size
      have r34 : ρ (.tmp 34) = .int .i64 width := by have h := hF 7 (by decide +kernel) (by decide +kernel); rw [HF.out] at h; exact (hd 7 (by decide +kernel) 34 (by kernel_rfl)).trans h
      have r37 : ρ (.tmp 37) = .slice (some ⟨b, off + h, none⟩) m (c - h) := by have h := hF 10 (by decide +kernel) (by decide +kernel); rw [HF.out] at h; exact (hd 10 (by decide +kernel) 37 (by kernel_rfl)).trans h
      clear  hd h0 he ha hF
      go_simp
      refine (HT.out _ (HR2.out.below (below_then HB.out hb HB.out.size)).base).mono ?_
      rintro e u1 ⟨rfl, hb1⟩
      rw [HF.out]
      exact ⟨_, rfl, OnlyL.of_below hb1, rfl⟩
     ·intro gh ρ u hc hf1 hg1 hd h0 hb he ha hF
      replace hb : Below w2.heap.size w2 u := hb.drew.below (by decide +kernel)
      have hbz : w2.heap.size ≤ u.heap.size := hb.size
      have r38 : ρ (.tmp 38) = .string r := by have h := hF 11 (by decide +kernel) (by decide +kernel); rw [HF.out] at h; exact (hd 11 (by decide +kernel) 38 (by kernel_rfl)).trans h
      clear  hd h0 he ha hF
      go_simp
      rw [HF.out]
      exact ⟨OnlyL.of_below ((Below.refl _ _).alloc (Nat.le_refl _) _), rfl, by simp, NewBox.new _ _ _⟩
     ·intro gh ρ u hc hf1 hg1 hd h0 hb he ha hF
      replace hb : Below w2.heap.size w2 u := hb.drew.below (by decide +kernel)
      have hbz : w2.heap.size ≤ u.heap.size := hb.size
      have f6 : ∃ (A1 : Option Addr) (c1 : Nat), (gh 6).v = .slice A1 q c1 ∧ (RowIn (inG (gh 6) []) u 9 1 (.slice A1 q c1) q (strs t)) := by have h := hF 6 (by decide +kernel) (by decide +kernel); rw [HF.out] at h; exact h
      obtain ⟨A1, c1, hv6, g6_0⟩ := f6
      have hrow6 := g6_0
      have r33 : ρ (.tmp 33) = .slice A1 q c1 := (hd 6 (by decide +kernel) 33 (by kernel_rfl)).trans hv6
      have f12 : (gh 12).v = .slice (some ⟨(gh 12).s, 0, none⟩) 1 1 ∧ (gh 12).s < (gh 12).e ∧ NewBox u (gh 12).s (strs [r]) := by have h := hF 12 (by decide +kernel) (by decide +kernel); rw [HF.out] at h; exact h
      obtain ⟨hv12, hlt12, hnb12⟩ := f12
      have r39 : ρ (.tmp 39) = .slice (some ⟨(gh 12).s, 0, none⟩) 1 1 := (hd 12 (by decide +kernel) 39 (by kernel_rfl)).trans hv12
      clear hv6 hv12 hd h0 he ha hF
      refine gapp1Str _ _ rfl _ (q) (strs t) r33 hrow6 _ r r39 hnb12 (by omega) ?_
      intro A' c' u' hrow hlt hg
      rw [HF.out]
      have hS : ∀ k, inG (gh 6) [] k → ∃ z ∈ ([6] : List Nat), (gh z).s ≤ k ∧ k < (gh z).e := by
       rintro k (h | ⟨t, ht, h⟩)
       ·exact ⟨6, by decide, h⟩
       ·cases ht
      refine ⟨⟨hg.os, hg.tape, hg.output, hg.size, fun k hk hd' _ => hg.block k hk (fun e => ?_)⟩, A', c', rfl, ?_⟩
      ·obtain ⟨z, hz, h1, h2⟩ := hS k (hrow6.at_ k e.symm); have := hd' (gh z) (List.mem_map.2 ⟨z, hz, rfl⟩); omega
      ·exact RowIn.widen hrow (fun k hk => .inr (let ⟨z, hz, h⟩ := hS k hk; ⟨gh z, List.mem_map.2 ⟨z, hz, rfl⟩, h⟩)) (fun e => .inl ⟨Nat.le_refl _, hlt _ e⟩)
     ·intro gh ρ u hc hf1 hg1 hd h0 hb he ha hF
      have f13 : ∃ (A3 : Option Addr) (c3 : Nat), (gh 13).v = .slice A3 (q + 1) c3 ∧ RowIn (inG (gh 13) [(gh 6)]) u 9 1 (.slice A3 (q + 1) c3) ((q + 1)) ((strs t ++ strs [r])) := by have h := hF 13 (by decide +kernel) (by decide +kernel); rw [HF.out] at h; exact h
      obtain ⟨A3, c3, hv13, hrow13⟩ := f13
      have hrt13 := hv13
      have r40 : ρ (.tmp 40) = .slice A3 (q + 1) c3 := (hd 13 (by decide +kernel) 40 (by kernel_rfl)).trans hv13
      have HRT13 := Lib.hid hrt13
      clear hv13 hrt13 hd h0 he ha hF
      go_simp
      rw [HF.out]
      exact ⟨OnlyL.refl _ _, A3, c3, HRT13.out, rfl⟩
     intro gh w3 hB hE hA hF
     replace hB : Below w2.heap.size w2 w3 := hB.below rfl
     have f0 : (gh 0).v = .int .i64 width := by have h := hF 0 (by decide +kernel) (by decide +kernel); rw [HF.out] at h; exact h
     have f1 : (gh 1).v = .slice (some ⟨b, off, none⟩) n c := by have h := hF 1 (by decide +kernel) (by decide +kernel); rw [HF.out] at h; exact h
     have f2 : (gh 2).v = .int .i64 (h : Nat) := by have h := hF 2 (by decide +kernel) (by decide +kernel); rw [HF.out] at h; exact h
     have f3 : (gh 3).v = .slice (some ⟨b, off, none⟩) h c := by have h := hF 3 (by decide +kernel) (by decide +kernel); rw [HF.out] at h; exact h
     have f4 : (gh 4).v = .int .i64 (k : Nat) := by have h := hF 4 (by decide +kernel) (by decide +kernel); rw [HF.out] at h; exact h
     have f5 : (gh 5).v = .bool wh := by have h := hF 5 (by decide +kernel) (by decide +kernel); rw [HF.out] at h; exact h
     have f7 : (gh 7).v = .int .i64 width := by have h := hF 7 (by decide +kernel) (by decide +kernel); rw [HF.out] at h; exact h
     have f8 : (gh 8).v = .slice (some ⟨b, off, none⟩) n c := by have h := hF 8 (by decide +kernel) (by decide +kernel); rw [HF.out] at h; exact h
     have f9 : (gh 9).v = .int .i64 (h : Nat) := by have h := hF 9 (by decide +kernel) (by decide +kernel); rw [HF.out] at h; exact h
     have f10 : (gh 10).v = .slice (some ⟨b, off + h, none⟩) m (c - h) := by have h := hF 10 (by decide +kernel) (by decide +kernel); rw [HF.out] at h; exact h
     have f11 : (gh 11).v = .string r := by have h := hF 11 (by decide +kernel) (by decide +kernel); rw [HF.out] at h; exact h
     have f12 : (gh 12).v = .slice (some ⟨(gh 12).s, 0, none⟩) 1 1 ∧ (gh 12).s < (gh 12).e ∧ NewBox w3 (gh 12).s (strs [r]) := by have h := hF 12 (by decide +kernel) (by decide +kernel); rw [HF.out] at h; exact h
     have f13 : ∃ (A3 : Option Addr) (c3 : Nat), (gh 13).v = .slice A3 (q + 1) c3 ∧ RowIn (inG (gh 13) [(gh 6)]) w3 9 1 (.slice A3 (q + 1) c3) ((q + 1)) ((strs t ++ strs [r])) := by have h := hF 13 (by decide +kernel) (by decide +kernel); rw [HF.out] at h; exact h
     have f14 : ∃ (A3 : Option Addr) (c3 : Nat), (gh 13).v = .slice A3 (q + 1) c3 ∧ (gh 14).v = .slice A3 (q + 1) c3 := by have h := hF 14 (by decide +kernel) (by decide +kernel); rw [HF.out] at h; exact h
     have hv11 := f11
     obtain ⟨A3, c3, hv13, hrow13⟩ := f13
     have hv0 := f0
     have hv1 := f1
     have hv2 := f2
     have hv3 := f3
     have hv4 := f4
     have hv5 := f5
     have hv7 := f7
     have hv8 := f8
     have hv9 := f9
     have hv10 := f10
     obtain ⟨hv12, -⟩ := f12
     obtain ⟨A3_14, c3_14, hu13, hv14⟩ := f14
     replace hu13 := hv13.symm.trans hu13
     simp at hu13
     try simp only [and_assoc] at hu13
     obtain ⟨rfl, rfl⟩ := hu13
     obtain ⟨hs6, hse6, he6⟩ := hE 6 (by decide +kernel)
     obtain ⟨hs13, hse13, he13⟩ := hE 13 (by decide +kernel)
     have hdj3_6_13 := hA 6 (by decide +kernel) 13 (by decide +kernel) (by decide)
     change w2.heap.size ≤ _ at hs6 hs13
     have hS : ∀ k, inG (gh 13) [gh 6] k → w2.heap.size ≤ k ∧ k < w3.heap.size := by
      rintro k (h | ⟨t, ht, h⟩)
      ·omega
      ·simp only [List.mem_cons, List.not_mem_nil, or_false] at ht
       rcases ht with rfl <;> omega
     have hrwr := hrow13.row
     obtain ⟨hrcr, hrnr, hror⟩ := hrow13.own hS (Nat.le_refl _)
     have hrbr := hrow13.based (fun k h => (hS k h).1)
     clear hS hrow13
     clear hE hA hF
     generalize (gh 6).v = vq6 at *
     simp only [putDs, Nat.reduceAdd, hv0, hv1, hv2, hv3, hv4, hv5, hv7, hv8, hv9, hv10, hv11, hv12, hv13, hv14]
     clear hv0 hv1 hv2 hv3 hv4 hv5 hv7 hv8 hv9 hv10 hv11 hv12 hv13 hv14
     generalize (gh 6).s = s3_6 at *
     generalize (gh 6).e = e3_6 at *
     generalize (gh 13).s = s3_13 at *
     generalize (gh 13).e = e3_13 at *
     clear HF
     have hb := hB
     clear hB
     have hzw3 : w2.heap.size ≤ w3.heap.size := hb.size
     have hzzw3 : w.heap.size ≤ w3.heap.size := by omega
     replace HB := Lib.hid (below_then HB.out hb HB.out.size)
     clear hb
     have HRB := Lib.hid hrbr
     clear hrbr hrnr hrwr hrcr hror
     go_wp2
     refine bodyPost_ret (v := .slice A3 (q + 1) c3) (by simp [results, Tryz.results169, go_sem]) rfl ?_
     rw [HW.out]
     refine ⟨A3, c3, by rw [HQ.out], ?_, HB.out⟩
     rw [HQ.out, strs_app]
     exact row_mono HRB.out (by omega)
    ·have HW := Lib.hid (cons_hi (width := width) (f := f) (wh := wh) hn hkl hlt)
     have hla : (l.take (halfN n)).length = halfN n := by rw [List.length_take]; omega
     have hlb : (l.drop (halfN n)).length = n - halfN n := by rw [List.length_drop, hn]
     have haa := areH_sub ha (fun s hs => List.mem_of_mem_take hs : ∀ s ∈ l.take (halfN n), s ∈ l)
     have hab := areH_sub ha (fun s hs => List.mem_of_mem_drop hs : ∀ s ∈ l.drop (halfN n), s ∈ l)
     have HRa : Hid (Rd w 0 w.heap.size (some ⟨b, off, none⟩) (strs (l.take (halfN n)))) := Lib.hid (hr.takeS _).base
     have HRb : Hid (Rd w 0 w.heap.size (some ⟨b, off + halfN n, none⟩) (strs (l.drop (halfN n)))) := Lib.hid (hr.dropS _).base
     obtain ⟨h, hh⟩ : ∃ h, h = halfN n := ⟨_, rfl⟩
     obtain ⟨m, hm⟩ : ∃ m, m = n - h := ⟨_, rfl⟩
     rw [← hh] at HW HH hla hlb haa hab HRa HRb k1 k2 k3 hlt
     rw [← hm] at hlb
     obtain ⟨kz, hk2⟩ : ∃ kz, kz = k - h := ⟨_, rfl⟩
     rw [← hk2] at HW
     have hql := cons_le (width := width) (f := f) (k := kz) (wh := false) hlb (by omega) (by omega) (by omega)
     have HI := Lib.hid (fun W (r : Rd W 0 W.heap.size (some ⟨b, off + h, none⟩) (strs (l.drop h))) => IH.out (some ⟨b, off + h, none⟩) (c - h) 0 W.heap.size m kz (l.drop h) false W r hlb (by omega) (by omega) (by omega) hab (by omega) (by omega))
     have HT := Lib.hid (fun W (r : Rd W 0 W.heap.size (some ⟨b, off, none⟩) (strs (l.take h))) => l05Root_c width hw 513 (some ⟨b, off, none⟩) c 0 W.heap.size h (l.take h) W r hla (by omega) (by omega) (by omega) haa)
     have HR1 := HRb
     have HR2 := HRa
     generalize consFu width f (l.drop h) kz false = t at *
     generalize rootFu width 513 (l.take h) = r at *
     have F1 : IntKind.i64.wrap ((k : Int) - h) = kz := by rw [IntKind.wrap_i64]; omega
     have F2 : (k : Int) - h = kz := by omega
     have F3 : IntKind.i64.wrap (kz : Int) = kz := by rw [IntKind.wrap_i64]; omega
     obtain ⟨q, hq⟩ : ∃ q, q = t.length := ⟨_, rfl⟩
     rw [← hq] at HI hql
     have HQ : Hid ((t ++ [r]).length = q + 1) := Lib.hid (by rw [hq, List.length_append]; rfl)
     have hq5 : q ≤ 512 := by omega
     have E1 : (h : Int) ≤ (n : Int) := by omega
     have E2 : (h : Int) ≤ (c : Int) := by omega
     have E3 : (n : Int) ≤ (c : Int) := by omega
     have E4 : ¬ (h : Int) = c := by omega
     have E5 : ¬ h = c := by omega
     have E9 : ¬ c = h := by omega
     have E10 : ¬ (c : Int) = h := by omega
     have E6 : (n : Int) - h = m := by omega
     have E7 : n - h = m := by omega
     have E8 : ((k : Int) == n) = false := beq_eq_false_iff_ne.2 (by omega)
     clear hq hh hm HRa HRb hr hn ha hks hcl hla hlb haa hab IH hw hk2
     have HB : Hid (Below w.heap.size w w) := Below.refl _ _
     go_enter Tryz.func169, Tryz.ntmps169
     go_wp2_with fail
     refine (HH.out _).mono ?_
     rintro e w1_ ⟨rfl, rfl⟩
     go_wp2_with fail
     refine wp_named (fun w2 hw => ?_)
     have hz2 : w.heap.size + 0 ≤ w2.heap.size := by rw [hw]; first | omega | (simp [World.setCell]; done) | (simp [World.setCell]; omega)
     have hbn : Below w.heap.size w w2 := by rw [hw]; exact (by ((repeat (first | ((with_reducible refine Below.alloc ?_ ?_ _); rotate_left 1; (focus (first | omega | (simp; done) | (simp; omega)))) | (with_reducible refine Below.drew ?_) | ((with_reducible refine Below.setCell ?_ ?_ _); rotate_left 1; (focus (first | omega | (simp; done) | (simp; omega)))))); exact Below.refl _ _))
     replace HB := Lib.hid (below_then HB.out hbn HB.out.size)
     clear hbn
     clear hw
     obtain ⟨F, HF⟩ : ∃ F : Facts, Hid (F = fun iq xq tqs dsq uq => match iq with
      | 0 => xq.v = .int .i64 width
      | 1 => xq.v = .slice (some ⟨b, off, none⟩) n c
      | 2 => xq.v = .int .i64 (h : Nat)
      | 3 => xq.v = .slice (some ⟨b, off + h, none⟩) m (c - h)
      | 4 => xq.v = .int .i64 (k : Nat)
      | 5 => xq.v = .int .i64 (h : Nat)
      | 6 => xq.v = .int .i64 (kz : Nat)
      | 7 => ∃ (A1 : Option Addr) (c1 : Nat), xq.v = .slice A1 q c1 ∧ (RowIn (inG xq []) uq 9 1 (.slice A1 q c1) q (strs t))
      | 8 => xq.v = .int .i64 width
      | 9 => xq.v = .slice (some ⟨b, off, none⟩) n c
      | 10 => xq.v = .int .i64 (h : Nat)
      | 11 => xq.v = .slice (some ⟨b, off, none⟩) h c
      | 12 => xq.v = .string r
      | 13 => xq.v = .slice (some ⟨xq.s, 0, none⟩) 1 1 ∧ xq.s < xq.e ∧ NewBox uq xq.s (strs [r])
      | 14 => (match tqs, dsq with | [tq0], [] => ∃ (A3 : Option Addr) (c3 : Nat), xq.v = .slice A3 (q + 1) c3 ∧ RowIn (inG xq [tq0]) uq 9 1 (.slice A3 (q + 1) c3) ((q + 1)) ((strs t ++ strs [r])) | _, _ => False)
      | 15 => (match tqs, dsq with | [], [yq0] => ∃ (A3 : Option Addr) (c3 : Nat), yq0.v = .slice A3 (q + 1) c3 ∧ xq.v = .slice A3 (q + 1) c3 | _, _ => False)
      | _ => False) := ⟨_, rfl⟩
     refine wp_region_facts [[], [], [], [], [], [], [], [], [], [], [], [], [], [], [], [14]] [[], [], [], [], [], [], [], [], [], [], [], [], [], [], [7], []] [some 41, some 42, some 43, some 44, some 45, some 46, some 47, some 48, some 49, some 50, some 51, some 52, some 53, some 54, some 55, some 8] none 0 0 (.inl rfl) F (by kernel_rfl) (by kernel_rfl) (by kernel_rfl) ?_ ⟨?_, ?_, ?_, ?_, ?_, ?_, ?_, ?_, ?_, ?_, ?_, ?_, ?_, ?_, ?_, ?_, trivial⟩ ?_
     ·rw [HF.out]; intro iq xq tqs dsq uq u' hi hf hs hW hx hbk
      have kx : ∀ b, xq.s ≤ b → b < xq.e → u'.heap[b]? = uq.heap[b]? := fun b h1 h2 => hbk b (.inr (.inl ⟨h1, h2⟩))
      have kt : ∀ t ∈ tqs, ∀ b, t.s ≤ b → b < t.e → u'.heap[b]? = uq.heap[b]? := fun t ht b h1 h2 => hbk b (.inr (.inr ⟨t, ht, h1, h2⟩))
      match iq with
      | 0 => exact hf
      | 1 => exact hf
      | 2 => exact hf
      | 3 => exact hf
      | 4 => exact hf
      | 5 => exact hf
      | 6 => exact hf
      | 7 => obtain ⟨A1, c1, hv, p0⟩ := hf; exact ⟨A1, c1, hv, p0.keep (fun k hk => hk.elim (fun h => kx k h.1 h.2) (fun ⟨t, ht, _⟩ => by cases ht))⟩
      | 8 => exact hf
      | 9 => exact hf
      | 10 => exact hf
      | 11 => exact hf
      | 12 => exact hf
      | 13 => obtain ⟨h1, h2, hb⟩ := hf; exact ⟨h1, h2, hb.keep hs (kx _ (Nat.le_refl _) h2)⟩
      | 14 => match tqs, dsq, hf with | [tq0], [], hf => obtain ⟨A3, c3, hv, p0⟩ := hf; exact ⟨A3, c3, hv, p0.keep (fun k hk => hk.elim (fun h => kx k h.1 h.2) (fun ⟨t, ht, h⟩ => kt t ht k h.1 h.2))⟩
      | 15 => exact hf
     ·intro gh ρ u hc hf1 hg1 hd h0 hb he ha hF
      have r0 : ρ (.tmp 0) = .int .i64 width := (h0 0 (by decide +kernel)).trans rfl
      clear  hd h0 he ha hF
      go_simp
      rw [HF.out]
      exact ⟨OnlyL.refl _ _, rfl⟩
     ·intro gh ρ u hc hf1 hg1 hd h0 hb he ha hF
      have r1 : ρ (.tmp 1) = .slice (some ⟨b, off, none⟩) n c := (h0 1 (by decide +kernel)).trans rfl
      clear  hd h0 he ha hF
      go_simp
      rw [HF.out]
      exact ⟨OnlyL.refl _ _, rfl⟩
     ·intro gh ρ u hc hf1 hg1 hd h0 hb he ha hF
      have r10 : ρ (.tmp 10) = .int .i64 (h : Nat) := (h0 10 (by decide +kernel)).trans rfl
      clear  hd h0 he ha hF
      go_simp
      rw [HF.out]
      exact ⟨OnlyL.refl _ _, rfl⟩
     ·intro gh ρ u hc hf1 hg1 hd h0 hb he ha hF
      have r42 : ρ (.tmp 42) = .slice (some ⟨b, off, none⟩) n c := by have h := hF 1 (by decide +kernel) (by decide +kernel); rw [HF.out] at h; exact (hd 1 (by decide +kernel) 42 (by kernel_rfl)).trans h
      have r43 : ρ (.tmp 43) = .int .i64 (h : Nat) := by have h := hF 2 (by decide +kernel) (by decide +kernel); rw [HF.out] at h; exact (hd 2 (by decide +kernel) 43 (by kernel_rfl)).trans h
      clear  hd h0 he ha hF
      go_simp
      rw [HF.out]
      exact ⟨OnlyL.refl _ _, rfl⟩
     ·intro gh ρ u hc hf1 hg1 hd h0 hb he ha hF
      have r2 : ρ (.tmp 2) = .int .i64 (k : Nat) := (h0 2 (by decide +kernel)).trans rfl
      clear  hd h0 he ha hF
      go_simp
      rw [HF.out]
      exact ⟨OnlyL.refl _ _, rfl⟩
     ·intro gh ρ u hc hf1 hg1 hd h0 hb he ha hF
      have r10 : ρ (.tmp 10) = .int .i64 (h : Nat) := (h0 10 (by decide +kernel)).trans rfl
      clear  hd h0 he ha hF
      go_simp
      rw [HF.out]
      exact ⟨OnlyL.refl _ _, rfl⟩
     ·intro gh ρ u hc hf1 hg1 hd h0 hb he ha hF
      have r45 : ρ (.tmp 45) = .int .i64 (k : Nat) := by have h := hF 4 (by decide +kernel) (by decide +kernel); rw [HF.out] at h; exact (hd 4 (by decide +kernel) 45 (by kernel_rfl)).trans h
      have r46 : ρ (.tmp 46) = .int .i64 (h : Nat) := by have h := hF 5 (by decide +kernel) (by decide +kernel); rw [HF.out] at h; exact (hd 5 (by decide +kernel) 46 (by kernel_rfl)).trans h
      clear  hd h0 he ha hF
      go_simp
      rw [HF.out]
      exact ⟨OnlyL.refl _ _, rfl⟩
     ·intro gh ρ u hc hf1 hg1 hd h0 hb he ha hF
      replace hb : Below w2.heap.size w2 u := hb.drew.below (by decide +kernel)
      have hbz : w2.heap.size ≤ u.heap.size := hb.size
      have r41 : ρ (.tmp 41) = .int .i64 width := by have h := hF 0 (by decide +kernel) (by decide +kernel); rw [HF.out] at h; exact (hd 0 (by decide +kernel) 41 (by kernel_rfl)).trans h
      have r44 : ρ (.tmp 44) = .slice (some ⟨b, off + h, none⟩) m (c - h) := by have h := hF 3 (by decide +kernel) (by decide +kernel); rw [HF.out] at h; exact (hd 3 (by decide +kernel) 44 (by kernel_rfl)).trans h
      have r47 : ρ (.tmp 47) = .int .i64 (kz : Nat) := by have h := hF 6 (by decide +kernel) (by decide +kernel); rw [HF.out] at h; exact (hd 6 (by decide +kernel) 47 (by kernel_rfl)).trans h
      clear  hd h0 he ha hF
      go_simp
      refine (HI.out _ (HR1.out.below (below_then HB.out hb HB.out.size)).base).mono ?_
      rintro e u1 ⟨A1, c1, rfl, ho, hb1⟩
      rw [HF.out]
      exact ⟨_, rfl, OnlyL.of_below hb1, A1, c1, rfl, RowIn.of_row ho (fun k h1 h2 => .inl ⟨h1, h2⟩)⟩
     ·intro gh ρ u hc hf1 hg1 hd h0 hb he ha hF
      have r0 : ρ (.tmp 0) = .int .i64 width := (h0 0 (by decide +kernel)).trans rfl
      clear  hd h0 he ha hF
      go_simp
      rw [HF.out]
      exact ⟨OnlyL.refl _ _, rfl⟩
     ·intro gh ρ u hc hf1 hg1 hd h0 hb he ha hF
      have r1 : ρ (.tmp 1) = .slice (some ⟨b, off, none⟩) n c := (h0 1 (by decide +kernel)).trans rfl
      clear  hd h0 he ha hF
      go_simp
      rw [HF.out]
      exact ⟨OnlyL.refl _ _, rfl⟩
     ·intro gh ρ u hc hf1 hg1 hd h0 hb he ha hF
      have r10 : ρ (.tmp 10) = .int .i64 (h : Nat) := (h0 10 (by decide +kernel)).trans rfl
      clear  hd h0 he ha hF
      go_simp
      rw [HF.out]
      exact ⟨OnlyL.refl _ _, rfl⟩
     ·intro gh ρ u hc hf1 hg1 hd h0 hb he ha hF
      have r50 : ρ (.tmp 50) = .slice (some ⟨b, off, none⟩) n c := by have h := hF 9 (by decide +kernel) (by decide +kernel); rw [HF.out] at h; exact (hd 9 (by decide +kernel) 50 (by kernel_rfl)).trans h
      have r51 : ρ (.tmp 51) = .int .i64 (h : Nat) := by have h := hF 10 (by decide +kernel) (by decide +kernel); rw [HF.out] at h; exact (hd 10 (by decide +kernel) 51 (by kernel_rfl)).trans h
      clear  hd h0 he ha hF
      go_simp
      rw [HF.out]
      exact ⟨OnlyL.refl _ _, rfl⟩
     ·intro gh ρ u hc hf1 hg1 hd h0 hb he ha hF
      replace hb : Below w2.heap.size w2 u := hb.drew.below (by decide +kernel)
      have hbz : w2.heap.size ≤ u.heap.size := hb.size
      have r49 : ρ (.tmp 49) = .int .i64 width := by have h := hF 8 (by decide +kernel) (by decide +kernel); rw [HF.out] at h; exact (hd 8 (by decide +kernel) 49 (by kernel_rfl)).trans h
      have r52 : ρ (.tmp 52) = .slice (some ⟨b, off, none⟩) h c := by have h := hF 11 (by decide +kernel) (by decide +kernel); rw [HF.out] at h; exact (hd 11 (by decide +kernel) 52 (by kernel_rfl)).trans h
      clear  hd h0 he ha hF
      go_simp
      refine (HT.out _ (HR2.out.below (below_then HB.out hb HB.out.size)).base).mono ?_
      rintro e u1 ⟨rfl, hb1⟩
      rw [HF.out]
      exact ⟨_, rfl, OnlyL.of_below hb1, rfl⟩
     ·intro gh ρ u hc hf1 hg1 hd h0 hb he ha hF
      replace hb : Below w2.heap.size w2 u := hb.drew.below (by decide +kernel)
      have hbz : w2.heap.size ≤ u.heap.size := hb.size
      have r53 : ρ (.tmp 53) = .string r := by have h := hF 12 (by decide +kernel) (by decide +kernel); rw [HF.out] at h; exact (hd 12 (by decide +kernel) 53 (by kernel_rfl)).trans h
      clear  hd h0 he ha hF
      go_simp
      rw [HF.out]
      exact ⟨OnlyL.of_below ((Below.refl _ _).alloc (Nat.le_refl _) _), rfl, by simp, NewBox.new _ _ _⟩
     ·intro gh ρ u hc hf1 hg1 hd h0 hb he ha hF
      replace hb : Below w2.heap.size w2 u := hb.drew.below (by decide +kernel)
      have hbz : w2.heap.size ≤ u.heap.size := hb.size
      have f7 : ∃ (A1 : Option Addr) (c1 : Nat), (gh 7).v = .slice A1 q c1 ∧ (RowIn (inG (gh 7) []) u 9 1 (.slice A1 q c1) q (strs t)) := by have h := hF 7 (by decide +kernel) (by decide +kernel); rw [HF.out] at h; exact h
      obtain ⟨A1, c1, hv7, g7_0⟩ := f7
      have hrow7 := g7_0
      have r48 : ρ (.tmp 48) = .slice A1 q c1 := (hd 7 (by decide +kernel) 48 (by kernel_rfl)).trans hv7
      have f13 : (gh 13).v = .slice (some ⟨(gh 13).s, 0, none⟩) 1 1 ∧ (gh 13).s < (gh 13).e ∧ NewBox u (gh 13).s (strs [r]) := by have h := hF 13 (by decide +kernel) (by decide +kernel); rw [HF.out] at h; exact h
      obtain ⟨hv13, hlt13, hnb13⟩ := f13
      have r54 : ρ (.tmp 54) = .slice (some ⟨(gh 13).s, 0, none⟩) 1 1 := (hd 13 (by decide +kernel) 54 (by kernel_rfl)).trans hv13
      clear hv7 hv13 hd h0 he ha hF
      refine gapp1Str _ _ rfl _ (q) (strs t) r48 hrow7 _ r r54 hnb13 (by omega) ?_
      intro A' c' u' hrow hlt hg
      rw [HF.out]
      have hS : ∀ k, inG (gh 7) [] k → ∃ z ∈ ([7] : List Nat), (gh z).s ≤ k ∧ k < (gh z).e := by
       rintro k (h | ⟨t, ht, h⟩)
       ·exact ⟨7, by decide, h⟩
       ·cases ht
      refine ⟨⟨hg.os, hg.tape, hg.output, hg.size, fun k hk hd' _ => hg.block k hk (fun e => ?_)⟩, A', c', rfl, ?_⟩
      ·obtain ⟨z, hz, h1, h2⟩ := hS k (hrow7.at_ k e.symm); have := hd' (gh z) (List.mem_map.2 ⟨z, hz, rfl⟩); omega
      ·exact RowIn.widen hrow (fun k hk => .inr (let ⟨z, hz, h⟩ := hS k hk; ⟨gh z, List.mem_map.2 ⟨z, hz, rfl⟩, h⟩)) (fun e => .inl ⟨Nat.le_refl _, hlt _ e⟩)
     ·intro gh ρ u hc hf1 hg1 hd h0 hb he ha hF
      have f14 : ∃ (A3 : Option Addr) (c3 : Nat), (gh 14).v = .slice A3 (q + 1) c3 ∧ RowIn (inG (gh 14) [(gh 7)]) u 9 1 (.slice A3 (q + 1) c3) ((q + 1)) ((strs t ++ strs [r])) := by have h := hF 14 (by decide +kernel) (by decide +kernel); rw [HF.out] at h; exact h
      obtain ⟨A3, c3, hv14, hrow14⟩ := f14
      have hrt14 := hv14
      have r55 : ρ (.tmp 55) = .slice A3 (q + 1) c3 := (hd 14 (by decide +kernel) 55 (by kernel_rfl)).trans hv14
      have HRT14 := Lib.hid hrt14
      clear hv14 hrt14 hd h0 he ha hF
      go_simp
      rw [HF.out]
      exact ⟨OnlyL.refl _ _, A3, c3, HRT14.out, rfl⟩
     intro gh w3 hB hE hA hF
     replace hB : Below w2.heap.size w2 w3 := hB.below rfl
     have f0 : (gh 0).v = .int .i64 width := by have h := hF 0 (by decide +kernel) (by decide +kernel); rw [HF.out] at h; exact h
     have f1 : (gh 1).v = .slice (some ⟨b, off, none⟩) n c := by have h := hF 1 (by decide +kernel) (by decide +kernel); rw [HF.out] at h; exact h
     have f2 : (gh 2).v = .int .i64 (h : Nat) := by have h := hF 2 (by decide +kernel) (by decide +kernel); rw [HF.out] at h; exact h
     have f3 : (gh 3).v = .slice (some ⟨b, off + h, none⟩) m (c - h) := by have h := hF 3 (by decide +kernel) (by decide +kernel); rw [HF.out] at h; exact h
     have f4 : (gh 4).v = .int .i64 (k : Nat) := by have h := hF 4 (by decide +kernel) (by decide +kernel); rw [HF.out] at h; exact h
     have f5 : (gh 5).v = .int .i64 (h : Nat) := by have h := hF 5 (by decide +kernel) (by decide +kernel); rw [HF.out] at h; exact h
     have f6 : (gh 6).v = .int .i64 (kz : Nat) := by have h := hF 6 (by decide +kernel) (by decide +kernel); rw [HF.out] at h; exact h
     have f8 : (gh 8).v = .int .i64 width := by have h := hF 8 (by decide +kernel) (by decide +kernel); rw [HF.out] at h; exact h
     have f9 : (gh 9).v = .slice (some ⟨b, off, none⟩) n c := by have h := hF 9 (by decide +kernel) (by decide +kernel); rw [HF.out] at h; exact h
     have f10 : (gh 10).v = .int .i64 (h : Nat) := by have h := hF 10 (by decide +kernel) (by decide +kernel); rw [HF.out] at h; exact h
     have f11 : (gh 11).v = .slice (some ⟨b, off, none⟩) h c := by have h := hF 11 (by decide +kernel) (by decide +kernel); rw [HF.out] at h; exact h
     have f12 : (gh 12).v = .string r := by have h := hF 12 (by decide +kernel) (by decide +kernel); rw [HF.out] at h; exact h
     have f13 : (gh 13).v = .slice (some ⟨(gh 13).s, 0, none⟩) 1 1 ∧ (gh 13).s < (gh 13).e ∧ NewBox w3 (gh 13).s (strs [r]) := by have h := hF 13 (by decide +kernel) (by decide +kernel); rw [HF.out] at h; exact h
     have f14 : ∃ (A3 : Option Addr) (c3 : Nat), (gh 14).v = .slice A3 (q + 1) c3 ∧ RowIn (inG (gh 14) [(gh 7)]) w3 9 1 (.slice A3 (q + 1) c3) ((q + 1)) ((strs t ++ strs [r])) := by have h := hF 14 (by decide +kernel) (by decide +kernel); rw [HF.out] at h; exact h
     have f15 : ∃ (A3 : Option Addr) (c3 : Nat), (gh 14).v = .slice A3 (q + 1) c3 ∧ (gh 15).v = .slice A3 (q + 1) c3 := by have h := hF 15 (by decide +kernel) (by decide +kernel); rw [HF.out] at h; exact h
     have hv12 := f12
     obtain ⟨A3, c3, hv14, hrow14⟩ := f14
     have hv0 := f0
     have hv1 := f1
     have hv2 := f2
     have hv3 := f3
     have hv4 := f4
     have hv5 := f5
     have hv6 := f6
     have hv8 := f8
     have hv9 := f9
     have hv10 := f10
     have hv11 := f11
     obtain ⟨hv13, -⟩ := f13
     obtain ⟨A3_15, c3_15, hu14, hv15⟩ := f15
     replace hu14 := hv14.symm.trans hu14
     simp at hu14
     try simp only [and_assoc] at hu14
     obtain ⟨rfl, rfl⟩ := hu14
     obtain ⟨hs7, hse7, he7⟩ := hE 7 (by decide +kernel)
     obtain ⟨hs14, hse14, he14⟩ := hE 14 (by decide +kernel)
     have hdj3_7_14 := hA 7 (by decide +kernel) 14 (by decide +kernel) (by decide)
     change w2.heap.size ≤ _ at hs7 hs14
     have hS : ∀ k, inG (gh 14) [gh 7] k → w2.heap.size ≤ k ∧ k < w3.heap.size := by
      rintro k (h | ⟨t, ht, h⟩)
      ·omega
      ·simp only [List.mem_cons, List.not_mem_nil, or_false] at ht
       rcases ht with rfl <;> omega
     have hrwr := hrow14.row
     obtain ⟨hrcr, hrnr, hror⟩ := hrow14.own hS (Nat.le_refl _)
     have hrbr := hrow14.based (fun k h => (hS k h).1)
     clear hS hrow14
     clear hE hA hF
     generalize (gh 7).v = vq7 at *
     simp only [putDs, Nat.reduceAdd, hv0, hv1, hv2, hv3, hv4, hv5, hv6, hv8, hv9, hv10, hv11, hv12, hv13, hv14, hv15]
     clear hv0 hv1 hv2 hv3 hv4 hv5 hv6 hv8 hv9 hv10 hv11 hv12 hv13 hv14 hv15
     generalize (gh 7).s = s3_7 at *
     generalize (gh 7).e = e3_7 at *
     generalize (gh 14).s = s3_14 at *
     generalize (gh 14).e = e3_14 at *
     clear HF
     have hb := hB
     clear hB
     have hzw3 : w2.heap.size ≤ w3.heap.size := hb.size
     have hzzw3 : w.heap.size ≤ w3.heap.size := by omega
     replace HB := Lib.hid (below_then HB.out hb HB.out.size)
     clear hb
     have HRB := Lib.hid hrbr
     clear hrbr hrnr hrwr hrcr hror
     go_wp2
     refine bodyPost_ret (v := .slice A3 (q + 1) c3) (by simp [results, Tryz.results169, go_sem]) rfl ?_
     rw [HW.out]
     refine ⟨A3, c3, by rw [HQ.out], ?_, HB.out⟩
     rw [HQ.out, strs_app]
     exact row_mono HRB.out (by omega)
   ·obtain rfl : k = n := by omega
    rcases wh with _ | _
    ·have HW := Lib.hid (cons_end (width := width) (f := f) hn).2
     have HT := Lib.hid (fun W (r : Rd W 0 W.heap.size (some ⟨b, off, none⟩) (strs l)) => l05Root_c width hw 513 (some ⟨b, off, none⟩) c 0 W.heap.size k l W r hn h5 (by omega) hc ha)
     have HR := Lib.hid hr.base
     generalize rootFu width 513 l = r at *
     clear hr hn ha hks hcl IH hw
     go_enter Tryz.func169, Tryz.ntmps169
     go_wp2_with fail
     refine (HT.out _ HR.out).mono ?_
     rintro e w1 ⟨rfl, hb1⟩
     have HB1 := Lib.hid hb1
     have hs1 := hb1.size
     clear hb1
     go_wp2
     refine bodyPost_named (fun w2 hw2 => ?_)
     have hB : Below w.heap.size w w2 := by rw [hw2]; exact HB1.out.alloc (by omega) _
     have hR : w2.ownsRow w.heap.size 9 1 (.slice (some ⟨w1.heap.size, 0, none⟩) 1 1) 1 (strs [r]) := by
      rw [hw2]; exact ⟨rfl, .inr ⟨w1.heap.size, 1, #[.string r], rfl, hs1, heap_alloc_new w1 _, Nat.le_refl _, by unfold maxLen; omega, rfl, rfl⟩⟩
     have HR2 := Lib.hid hR
     have HB2 := Lib.hid hB
     clear hw2 hB hR
     go_ret
     rw [HW.out]
     exact ⟨_, _, rfl, HR2.out, HB2.out⟩
    ·have HW := Lib.hid (cons_end (width := width) (f := f) hn).1
     clear hr hn ha hks hcl IH hw
     have HB : Hid (Below w.heap.size w w) := Below.refl _ _
     go_enter Tryz.func169, Tryz.ntmps169
     go_wp2
     refine bodyPost_named (fun w2 hw2 => ?_)
     have hB : Below w.heap.size w w2 := by rw [hw2]; exact (Below.refl _ _).alloc (Nat.le_refl _) _
     have hR : w2.ownsRow w.heap.size 9 1 (.slice (some ⟨w.heap.size, 0, none⟩) 0 0) 0 [] := by rw [hw2]; exact row_made _ _ 0
     have HR := Lib.hid hR
     have HB2 := Lib.hid hB
     clear hw2 hB hR
     go_ret
     rw [HW.out]
     exact ⟨_, _, rfl, HR.out, HB2.out⟩
end Go.Proofs.YtmmepogjocfefaaGreat
