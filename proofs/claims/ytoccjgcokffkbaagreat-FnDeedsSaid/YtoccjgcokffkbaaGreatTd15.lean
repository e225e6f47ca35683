/- Part 15 of the proof of FnDeeds: lemmas and contracts. -/
import Derived.Test.YtoccjgcokffkbaaGreatTd13
import Derived.StillTailTactics
import Derived.Deep.RegionLaw
namespace Go.Proofs.YtoccjgcokffkbaaGreat
set_option linter.unusedVariables false
set_option linter.unusedSimpArgs false
set_option maxHeartbeats 20000000
section
theorem calls_pop (n : Nat) : ∀ k : Nat, n + k ≤ 512 → aW n k + aO (n + k) = k + aO n
 | 0, _ => by rw [aW, Nat.add_zero]
 | k + 1, h => by
   have h1 := calls_pop n k (by omega)
   have h2 := (tz_pop (n + k) (by omega)).1
   rw [aW, show n + (k + 1) = n + k + 1 by omega]
   omega
theorem popN_le (n : Nat) : aO n ≤ 10 := dM n 10
theorem root_fits {width z : Int} {l : List ByteArray} (h : dH width z l = true) : dS width z (aU width l) = true := by
 obtain ⟨h1, h2, h3, h4, h5⟩ := bZ h
 rw [dS, az.2 ⟨h1, h2⟩, decide_eq_true (rngRoot_size h5 h4), Bool.true_and, Bool.true_and]
 by_cases hz : 0 < z
 ·rw [decide_eq_true hz]; rfl
 have h6 : l.length = 0 := by rw [h3, show z = 0 by omega]; decide
 rw [aU, if_pos h6, decide_eq_true rfl, Bool.or_true]
theorem smOk_all {width z1 z2 : Int} {l1 l2 L T : List ByteArray} {h : Hd} (hq : smOk width z1 l1 z2 l2 h L T = true) :
  ed width z1 l1 z2 l2 h = true ∧ bE width L = true ∧ bE width T = true ∧ (L.length : Int) ≤ 512 - z1 ∧ (T.length : Int) ≤ 512 - z2 ∧ ¬ h.num = 399 := by
 rw [smOk, smFit, Bool.and_eq_true, Bool.and_eq_true, Bool.and_eq_true, Bool.and_eq_true, Bool.and_eq_true] at hq
 obtain ⟨⟨⟨h1, h2⟩, h3⟩, ⟨h4, h5⟩, h6⟩ := hq
 exact ⟨h1, h2, h3, of_decide_eq_true h4, of_decide_eq_true h5, by simpa using h6⟩
theorem smOk_of {width z1 z2 : Int} {l1 l2 L T : List ByteArray} {h : Hd} (h1 : ed width z1 l1 z2 l2 h = true) (h2 : bE width L = true) (h3 : bE width T = true) (h4 : (L.length : Int) ≤ 512 - z1) (h5 : (T.length : Int) ≤ 512 - z2) (h6 : ¬ h.num = 399) : smOk width z1 l1 z2 l2 h L T = true := by
 rw [smOk, smFit, h1, h2, h3, decide_eq_true h4, decide_eq_true h5]
 simpa using h6
def nextHd (width z1 : Int) (l1 : List ByteArray) (z2 : Int) (l2 : List ByteArray) (h : Hd) (L T : List ByteArray) : Hd := ⟨h.num + 1, z1 + L.length, aU width (smP width z1 l1 L), z2 + T.length, aU width (smP width z2 l2 T)⟩
theorem seal_next {width z1 z2 : Int} {l1 l2 L T : List ByteArray} {h : Hd} (hq : smOk width z1 l1 z2 l2 h L T = true) :
  ed width (z1 + L.length) (smP width z1 l1 L) (z2 + T.length) (smP width z2 l2 T) (nextHd width z1 l1 z2 l2 h L T) = true := by
 obtain ⟨h1, h2, h3, h4, h5, h6⟩ := smOk_all hq
 obtain ⟨r1, r2, n0, n1⟩ := sealOk_all h1
 obtain ⟨g1, _, _⟩ := rng_grow r1 h2 h4
 obtain ⟨g2, _, _⟩ := rng_grow r2 h3 h5
 have hw := (bZ r1).2.2.2.2
 rw [ed, g1, g2, bu, nextHd, hw, az.2 ⟨by show 0 ≤ h.num + 1; omega, by show h.num + 1 ≤ 399; omega⟩, root_fits g1, root_fits g2, sealFit, rrT, rrT, g1, g2, if_pos rfl, if_pos rfl]
 simp
theorem take_are {width : Int} {L : List ByteArray} (h : bE width L = true) (i : Nat) : bE width (L.take i) = true ∧ bE width (L.drop i) = true :=
 ⟨areH_of fun s hs => cz h s (List.mem_of_mem_take hs), areH_of fun s hs => cz h s (List.mem_of_mem_drop hs)⟩
theorem made_le {width z1 z2 : Int} {l1 l2 L T : List ByteArray} {h : Hd} (hq : smOk width z1 l1 z2 l2 h L T = true) :
  aW z1.toNat L.length + aW z2.toNat T.length + aS (smP width z1 l1 L) + aS (smP width z2 l2 T) ≤ L.length + T.length + 20 := by
 obtain ⟨h1, h2, h3, h4, h5, h6⟩ := smOk_all hq
 obtain ⟨r1, r2, n0, n1⟩ := sealOk_all h1
 have key : ∀ {z : Int} {l M : List ByteArray}, dH width z l = true → (M.length : Int) ≤ 512 - z → aW z.toNat M.length + aS (smP width z l M) ≤ M.length + 10 := by
  intro z l M hr hm
  obtain ⟨k1, k2, k3, k4, k5⟩ := bZ hr
  have k7 : l.length = aO z.toNat := by rw [k3, ← popC_nat (by omega)]; congr 1; omega
  have k8 := bn (width := width) (leaves := M) k7 (k := M.length) (by omega)
  have k9 := calls_pop z.toNat M.length (by omega)
  have k10 := popN_le z.toNat
  rw [aS, smP, k8]
  omega
 have j1 := key r1 h4
 have j2 := key r2 h5
 omega
end
section
open Go.RowKit
theorem froz_later {w w' : World} {k o : Nat} {v : Value} {b : Bool} (h : Below w.heap.size w w') (hc : w.cell? ⟨k, o, none⟩ = some v) (hf : w.frozen? ⟨k, o, none⟩ = b) : w'.frozen? ⟨k, o, none⟩ = b :=
 (h.frozen (p := ⟨k, o, none⟩) (World.block_lt_of_cell? w ⟨k, o, none⟩ hc)).trans hf
theorem ownsRow_setCell {w : World} {base e size n : Nat} {v : Value} {xs : List Value} (h : w.ownsRow base e size v n xs) {p : Addr} (hp : p.block < base) (u : Value) : (w.setCell p u).ownsRow base e size v n xs := by
 refine h.kept (row := some p.block) ⟨rfl, rfl, rfl, by simp [World.setCell], fun k hk hne => Below.heap_setCell _ _ _ _ (fun e => hne (by rw [e]))⟩ ?_
 rcases hv : v.ownBlock with _ | k
 ·exact .inl rfl
 refine .inr (fun e => ?_)
 have := (h.lt k hv).1
 cases e
 omega
theorem cell_alloc_old (w : World) (o : Obj) {k off : Nat} {v : Value} (h : w.cell? ⟨k, off, none⟩ = some v) : (w.alloc o).cell? ⟨k, off, none⟩ = some v :=
 (((Below.refl w.heap.size w).alloc (Nat.le_refl _) o).cell (p := ⟨k, off, none⟩) (World.block_lt_of_cell? w ⟨k, off, none⟩ h)).trans h
theorem froz_alloc_old (w : World) (o : Obj) {k off : Nat} {v : Value} {b : Bool} (h : w.cell? ⟨k, off, none⟩ = some v) (hf : w.frozen? ⟨k, off, none⟩ = b) : (w.alloc o).frozen? ⟨k, off, none⟩ = b :=
 (((Below.refl w.heap.size w).alloc (Nat.le_refl _) o).frozen (p := ⟨k, off, none⟩) (World.block_lt_of_cell? w ⟨k, off, none⟩ h)).trans hf
def aY (l : List Ent) (t : ByteArray) (ti : Int) (k b : ByteArray) : Ent := ⟨t, (cnt l t : Nat), ti, k, b⟩
def bK (l : List Ent) (t : ByteArray) (ti : Int) (k b : ByteArray) : Int := if bU t then (if dG ti k b then (if decide (512 ≤ l.length) then 4 else 0) else 3) else 2
def addL (l : List Ent) (t : ByteArray) (ti : Int) (k b : ByteArray) : List Ent := if bK l t ti k b = 0 then l ++ [aY l t ti k b] else []
def addLeaf (l : List Ent) (t : ByteArray) (ti : Int) (k b : ByteArray) : Int := if bK l t ti k b = 0 then (l.length : Nat) else 0
theorem fD {l : List Ent} {t : ByteArray} {ti : Int} {k b : ByteArray} {c : Int} (h : bK l t ti k b = c) (hc : c ≠ 0) : addL l t ti k b = [] ∧ addLeaf l t ti k b = 0 := by
 rw [addL, addLeaf, h, if_neg hc, if_neg hc]; exact ⟨rfl, rfl⟩
theorem addL_yes {l : List Ent} {t : ByteArray} {ti : Int} {k b : ByteArray} (h : bK l t ti k b = 0) : addL l t ti k b = l ++ [aY l t ti k b] ∧ addLeaf l t ti k b = (l.length : Nat) := by
 rw [addL, addLeaf, h, if_pos rfl, if_pos rfl]; exact ⟨rfl, rfl⟩
theorem entryOk_0 {t k b : ByteArray} {ti : Int} (h : bU t = true) : aV ⟨t, 0, ti, k, b⟩ = dG ti k b := by
 rw [aV, h]; rfl
theorem ent_fits {t k b : ByteArray} {i ti : Int} (h1 : t.size ≤ 1048576) (hi : I64 i) (hti : I64 ti) (h2 : k.size ≤ 1048576) (h3 : b.size ≤ 1048576) : Ent.fits ⟨t, i, ti, k, b⟩ :=
 ⟨hi, hti, Nat.le_trans h1 (by unfold maxLen; omega), Nat.le_trans h2 (by unfold maxLen; omega), Nat.le_trans h3 (by unfold maxLen; omega)⟩
theorem grown_below {w w' : World} (h : Below w.heap.size w w') : w.grownBy w' none := ⟨h.os, h.tape, h.output, h.size, fun k hk _ => h.block k hk⟩
theorem ents_app (a b : List Ent) : aR (a ++ b) = aR a ++ aR b := by rw [aR, List.flatMap_append]; rfl
set_option maxRecDepth 100000 in
theorem l09Add_c (A : Option Addr) (c lo hi n : Nat) (l : List Ent) (t : ByteArray) (ti : Int) (k b : ByteArray) (w : World) (hr : Rd w lo hi A (aR l)) (hn : l.length = n) (hl : n ≤ 512) (hA : A = none → c = 0)
  (ht : t.size ≤ 1048576) (hti : I64 ti) (hk : k.size ≤ 1048576) (hb : b.size ≤ 1048576) :
  Calls Tryz.prog 107 #[.agg #[.slice A n c], .string t, .int .i64 ti, .string k, .string b] w fun e w' => ∃ (A' : Option Addr) (c' : Nat), e = .returned (.tuple #[.agg #[.slice A' (addL l t ti k b).length c'], .int .i64 (addLeaf l t ti k b), .int .i64 (bK l t ti k b)]) ∧
   ((A' = none → c' = 0) ∧ (addL l t ti k b).length ≤ c') ∧ Own w' w.heap.size w'.heap.size A' (aR (addL l t ti k b)) ∧ Below w.heap.size w w' := by
 have HN := lH hn
 have HI := lH hti
 clear hn hti
 go_enter Tryz.func107, Tryz.ntmps107
 have HB : Hid (Below w.heap.size w w) := Below.refl _ _
 have HOA : Hid (Rd w (0) (w.heap.size) (A) (aR l)) := Rd.base hr
 clear hr
 go_wp2_with fail
 refine af (fun w1 hw => ?_)
 have hz1 : w.heap.size + 2 ≤ w1.heap.size := zA
 have hbn : Below w.heap.size w w1 := zB
 replace HB := bT HB hbn
 replace HOA := lH (HOA.out.below hbn)
 clear hbn
 have HXl0 : Hid (aa w1 (w.heap.size) [.slice A n c]) := zG1
 obtain ⟨hkl0, hxl0, hfl0⟩ := HXl0.out
 have HXr0 : Hid (aa w1 (w.heap.size + 1) [.slice none 0 0]) := zG1
 obtain ⟨hkr0, hxr0, hfr0⟩ := HXr0.out
 clear hw
 refine (specNameOk_c t _ (by unfold maxLen; omega)).mono ?_
 rintro e w2_ ⟨rfl, rfl⟩
 rcases h1 : bU t with _ | _
 ·have hc : Hid (bK l t ti k b = 2) := by rw [Hid, bK, h1]; rfl
  clear h1; go_wp2
  refine bodyPost_ret (v := .tuple #[.agg #[.slice none 0 0], .int .i64 0, .int .i64 2]) (by simp [results, Tryz.results107, go_sem, World.cell?_setCell_same _ _ _ (HXr0.out.cell (o := 0) rfl)]) rfl ?_
  exact ⟨none, 0, by rw [hc.out, (fD hc.out (by decide)).1, (fD hc.out (by decide)).2]; rfl, ⟨fun _ => rfl, by rw [(fD hc.out (by decide)).1]; exact Nat.zero_le _⟩, by rw [(fD hc.out (by decide)).1]; exact Own.nil, (by ((repeat first | with_reducible apply bA | with_reducible apply bD | (with_reducible refine bS ?_ ?_; (focus (first | omega | simp <;> omega)))); exact HB.out))⟩
 have H1 := lH h1
 have hE := lH (entryOk_0 (k := k) (b := b) (ti := ti) h1)
 clear h1
 go_wp2_with fail
 refine af (fun w3 hw => ?_)
 have hz3 : w1.heap.size + 0 ≤ w3.heap.size := zA
 have hbn : Below w1.heap.size w1 w3 := zB
 replace HB := bT HB hbn
 replace HOA := lH (HOA.out.below hbn)
 replace HXl0 := nB HXl0 hbn
 clear hxl0 hfl0 hkl0
 obtain ⟨hkl0, hxl0, hfl0⟩ := HXl0.out
 replace HXr0 := nB HXr0 hbn
 clear hxr0 hfr0 hkr0
 obtain ⟨hkr0, hxr0, hfr0⟩ := HXr0.out
 clear hbn
 clear hw
 refine (specEntryOk_c ⟨t, 0, ti, k, b⟩ _ (ent_fits ht ⟨by decide, by decide⟩ HI.out hk hb)).mono ?_
 rintro e w4 ⟨rfl, hb⟩
 have hzw4 : w3.heap.size ≤ w4.heap.size := hb.size
 replace HB := bT HB hb
 replace HOA := lH (HOA.out.below hb)
 replace HXl0 := nB HXl0 hb
 clear hxl0 hfl0 hkl0
 obtain ⟨hkl0, hxl0, hfl0⟩ := HXl0.out
 replace HXr0 := nB HXr0 hb
 clear hxr0 hfr0 hkr0
 obtain ⟨hkr0, hxr0, hfr0⟩ := HXr0.out
 clear hb
 rw [hE.out]
 rcases h2 : dG ti k b with _ | _
 ·have hc : Hid (bK l t ti k b = 3) := by rw [Hid, bK, H1.out, h2]; rfl
  clear h2; go_wp2
  refine bodyPost_ret (v := .tuple #[.agg #[.slice none 0 0], .int .i64 0, .int .i64 3]) (by simp [results, Tryz.results107, go_sem, World.cell?_setCell_same _ _ _ (HXr0.out.cell (o := 0) rfl)]) rfl ?_
  exact ⟨none, 0, by rw [hc.out, (fD hc.out (by decide)).1, (fD hc.out (by decide)).2]; rfl, ⟨fun _ => rfl, by rw [(fD hc.out (by decide)).1]; exact Nat.zero_le _⟩, by rw [(fD hc.out (by decide)).1]; exact Own.nil, (by ((repeat first | with_reducible apply bA | with_reducible apply bD | (with_reducible refine bS ?_ ?_; (focus (first | omega | simp <;> omega)))); exact HB.out))⟩
 have H2 := lH h2
 clear h2
 rcases (show n = 512 ∨ n < 512 by omega) with h3 | h3
 ·have hc : Hid (bK l t ti k b = 4) := by rw [Hid, bK, H1.out, H2.out, HN.out, h3]; rfl
  subst h3; go_wp2
  refine bodyPost_ret (v := .tuple #[.agg #[.slice none 0 0], .int .i64 0, .int .i64 4]) (by simp [results, Tryz.results107, go_sem, World.cell?_setCell_same _ _ _ (HXr0.out.cell (o := 0) rfl)]) rfl ?_
  exact ⟨none, 0, by rw [hc.out, (fD hc.out (by decide)).1, (fD hc.out (by decide)).2]; rfl, ⟨fun _ => rfl, by rw [(fD hc.out (by decide)).1]; exact Nat.zero_le _⟩, by rw [(fD hc.out (by decide)).1]; exact Own.nil, (by ((repeat first | with_reducible apply bA | with_reducible apply bD | (with_reducible refine bS ?_ ?_; (focus (first | omega | simp <;> omega)))); exact HB.out))⟩
 have hc : Hid (bK l t ti k b = 0) := by rw [Hid, bK, H1.out, H2.out, HN.out]; simp; omega
 have hq : ((n : Int) == 512) = false := by rw [beq_eq_false_iff_ne]; omega
 go_wp2_with fail
 refine (l09Count_c A c _ _ n l t _ HOA.out HN.out (by omega)).mono ?_
 rintro e w5_ ⟨rfl, rfl⟩
 go_wp2_with fail
 refine aD (fun w6 hw => ?_)
 have hz6 : w4.heap.size + 1 ≤ w6.heap.size := zA
 have hbn : Below w4.heap.size w4 w6 := zB
 replace HB := bT HB hbn
 replace HOA := lH (HOA.out.below hbn)
 replace HXl0 := nB HXl0 hbn
 clear hxl0 hfl0 hkl0
 obtain ⟨hkl0, hxl0, hfl0⟩ := HXl0.out
 replace HXr0 := nB HXr0 hbn
 clear hxr0 hfr0 hkr0
 obtain ⟨hkr0, hxr0, hfr0⟩ := HXr0.out
 clear hbn
 have HXe : Hid (aa w6 (w4.heap.size) [.string t, .int .i64 (cnt l t : Nat), .int .i64 ti, .string k, .string b]) := zG5
 obtain ⟨hke, hxe, hfe⟩ := HXe.out
 clear hw
 obtain ⟨F, HF⟩ : ∃ F : Facts, Hid (F = fun iq xq tqs dsq uq => match iq with
  | 0 => xq.v = .slice (some ⟨xq.s, 0, none⟩) 0 0 ∧ bL (inG xq []) uq 41 5 (.slice (some ⟨xq.s, 0, none⟩) 0 0) 0 []
  | 1 => xq.v = .pointer (some ⟨(w.heap.size), 0, none⟩)
  | 2 => xq.v = .slice A n c
  | 3 => (match tqs, dsq with | [tq0], [] => ∃ (A3 : Option Addr) (c3 : Nat), xq.v = .slice A3 n c3 ∧ bL (inG xq [tq0]) uq 41 5 (.slice A3 n c3) (n) (aR l) | _, _ => False)
  | 4 => xq.v = .agg #[.string t, .int .i64 (cnt l t : Nat), .int .i64 ti, .string k, .string b]
  | 5 => xq.v = .slice (some ⟨xq.s, 0, none⟩) 1 1 ∧ xq.s < xq.e ∧ aa uq xq.s (aR [(aY l t ti k b)])
  | 6 => (match tqs, dsq with | [tq0, tq1], [] => ∃ (A4 : Option Addr) (c4 : Nat), xq.v = .slice A4 (n + 1) c4 ∧ bL (inG xq [tq0, tq1]) uq 41 5 (.slice A4 (n + 1) c4) ((n + 1)) ((aR l ++ aR [aY l t ti k b])) | _, _ => False)
  | 7 => (match tqs, dsq with | [], [yq0] => ∃ (A4 : Option Addr) (c4 : Nat), yq0.v = .slice A4 (n + 1) c4 ∧ xq.v = .agg #[.slice A4 (n + 1) c4] | _, _ => False)
  | 8 => xq.v = .pointer (some ⟨(w.heap.size), 0, none⟩)
  | 9 => xq.v = .slice A n c
  | 10 => xq.v = .int .i64 (n : Nat)
  | 11 => (match tqs, dsq with | [], [yq0] => ∃ (A4 : Option Addr) (c4 : Nat), yq0.v = .slice A4 (n + 1) c4 ∧ aa uq (w.heap.size + 1) [.slice A4 (n + 1) c4] | _, _ => False)
  | 12 => xq.v = .int .i64 (n : Nat)
  | 13 => xq.v = .int .i64 0
  | _ => False) := ⟨_, rfl⟩
 refine bq [[], [], [], [], [], [], [], [6], [], [], [], [6], [], []] [[], [], [], [0], [], [], [3, 0], [], [], [], [], [], [], []] [some 40, some 41, some 42, some 43, some 44, some 45, some 46, some 47, some 48, some 49, some 50, none, some 11, some 12] (some 11) (w.heap.size + 1) (w.heap.size + 1 + 1) (.inr (by omega)) F (by kernel_rfl) (by kernel_rfl) (by kernel_rfl) ?_ ⟨?_, ?_, ?_, ?_, ?_, ?_, ?_, ?_, ?_, ?_, ?_, ?_, ?_, ?_, trivial⟩ ?_
 ·rw [HF.out]; intro iq xq tqs dsq uq u' hi hf hs hW hx hbk
  have kx : ∀ b, xq.s ≤ b → b < xq.e → u'.heap[b]? = uq.heap[b]? := fun b h1 h2 => hbk b (.inr (.inl ⟨h1, h2⟩))
  have kt : ∀ t ∈ tqs, ∀ b, t.s ≤ b → b < t.e → u'.heap[b]? = uq.heap[b]? := fun t ht b h1 h2 => hbk b (.inr (.inr ⟨t, ht, h1, h2⟩))
  match iq with
  | 0 => exact ⟨hf.1, hf.2.keep (fun k hk => hk.elim (fun h => kx k h.1 h.2) (fun ⟨t, ht, _⟩ => by cases ht))⟩
  | 1 | 2 => exact hf
  | 3 => match tqs, dsq, hf with | [tq0], [], hf => obtain ⟨A3, c3, hv, p0⟩ := hf; exact ⟨A3, c3, hv, p0.keep (fun k hk => hk.elim (fun h => kx k h.1 h.2) (fun ⟨t, ht, h⟩ => kt t ht k h.1 h.2))⟩
  | 4 => exact hf
  | 5 => obtain ⟨h1, h2, hb⟩ := hf; exact ⟨h1, h2, hb.keep hs (kx _ (Nat.le_refl _) h2)⟩
  | 6 => match tqs, dsq, hf with | [tq0, tq1], [], hf => obtain ⟨A4, c4, hv, p0⟩ := hf; exact ⟨A4, c4, hv, p0.keep (fun k hk => hk.elim (fun h => kx k h.1 h.2) (fun ⟨t, ht, h⟩ => kt t ht k h.1 h.2))⟩
  | 7 | 8 => exact hf
  | 9 | 10 => exact hf
  | 11 => match tqs, dsq, hf with | [], [yq0], hf => obtain ⟨A4, c4, hvr6, hb⟩ := hf; exact ⟨A4, c4, hvr6, hb.keep hs (hbk _ (.inl ⟨hkr0, .inr (.inr rfl)⟩))⟩
  | 12 | 13 => exact hf
 ·intro gh ρ u hc hf1 hg1 hd h0 hb he ha hF
  first | (replace hb : Below w6.heap.size w6 u := hb.drew.below (by decide +kernel)) | (replace hb : Only (w.heap.size + 1) (w.heap.size + 1 + 1) w6 u := hb.drew.only)
  have hbz : w6.heap.size ≤ u.heap.size := hb.size
  clear hd h0 he ha hF; go_simp
  rw [HF.out]
  exact ⟨aX.of_below ((Below.refl _ _).alloc (Nat.le_refl _) _), rfl, bL.made _ _ _ _ (.inl ⟨Nat.le_refl _, by simp⟩)⟩
 ·intro gh ρ u hc hf1 hg1 hd h0 hb he ha hF
  have r5 : ρ (.tmp 5) = .pointer (some ⟨w.heap.size, 0, none⟩) := (h0 5 (by decide +kernel)).trans rfl
  clear hd h0 he ha hF; go_simp; exact fE HF rfl
 ·intro gh ρ u hc hf1 hg1 hd h0 hb he ha hF
  first | (replace hb : Below w6.heap.size w6 u := hb.drew.below (by decide +kernel)) | (replace hb : Only (w.heap.size + 1) (w.heap.size + 1 + 1) w6 u := hb.drew.only)
  have hbz : w6.heap.size ≤ u.heap.size := hb.size
  have r41 : ρ (.tmp 41) = .pointer (some ⟨(w.heap.size), 0, none⟩) := (hd 1 (by decide +kernel) 41 (by kernel_rfl)).trans (fG HF (hF 1))
  have q_l0 : ∀ o, u.cell? ⟨w.heap.size, o, none⟩ = [.slice A n c][o]? := by first | exact (HXl0.out.below hb).2.1 | exact (HXl0.out.only hb (by omega)).2.1
  have k_l0 : w.heap.size < u.heap.size := by have := HXl0.out.1; omega
  have q_e : ∀ o, u.cell? ⟨w4.heap.size, o, none⟩ = [.string t, .int .i64 (cnt l t : Nat), .int .i64 ti, .string k, .string b][o]? := by first | exact (HXe.out.below hb).2.1 | exact (HXe.out.only hb (by omega)).2.1
  have k_e : w4.heap.size < u.heap.size := by have := HXe.out.1; omega
  clear hd h0 he ha hF; go_simp; exact fE HF rfl
 ·intro gh ρ u hc hf1 hg1 hd h0 hb he ha hF
  first | (replace hb : Below w6.heap.size w6 u := hb.drew.below (by decide +kernel)) | (replace hb : Only (w.heap.size + 1) (w.heap.size + 1 + 1) w6 u := hb.drew.only)
  have hbz : w6.heap.size ≤ u.heap.size := hb.size
  have f0 : (gh 0).v = .slice (some ⟨(gh 0).s, 0, none⟩) 0 0 ∧ bL (inG (gh 0) []) u 41 5 (.slice (some ⟨(gh 0).s, 0, none⟩) 0 0) 0 [] := fG HF (hF 0)
  obtain ⟨hv0, hrow0⟩ := f0
  have r40 : ρ (.tmp 40) = .slice (some ⟨(gh 0).s, 0, none⟩) 0 0 := (hd 0 (by decide +kernel) 40 (by kernel_rfl)).trans hv0
  have r42 : ρ (.tmp 42) = .slice A n c := (hd 2 (by decide +kernel) 42 (by kernel_rfl)).trans (fG HF (hF 2))
  clear hv0 hd h0 he ha hF
  refine gappEnt _ _ rfl _ (0) ([]) r40 hrow0 A n c _ _ l r42 HN.out (HOA.out.below hb) hA (by omega) ?_
  intro A' c' u' hrow hlt hg
  rw [HF.out]
  have hS : ∀ k, inG (gh 0) [] k → ∃ z ∈ ([0] : List Nat), (gh z).s ≤ k ∧ k < (gh z).e := by
   rintro k (h | ⟨t, ht, h⟩)
   ·exact ⟨0, by decide, h⟩
   cases ht
  refine ⟨⟨hg.os, hg.tape, hg.output, hg.size, fun k hk hd' _ => hg.block k hk (fun e => ?_)⟩, A', c', by rw [Nat.zero_add], ?_⟩
  ·obtain ⟨z, hz, h1, h2⟩ := hS k (hrow0.at_ k e.symm); have := hd' (gh z) (List.mem_map.2 ⟨z, hz, rfl⟩); omega
  rw [Nat.zero_add, List.nil_append] at hrow; rw [Nat.zero_add] at hlt; exact bL.widen hrow (fun k hk => .inr (let ⟨z, hz, h⟩ := hS k hk; ⟨gh z, List.mem_map.2 ⟨z, hz, rfl⟩, h⟩)) (fun e => .inl ⟨Nat.le_refl _, hlt _ e⟩)
 ·intro gh ρ u hc hf1 hg1 hd h0 hb he ha hF
  first | (replace hb : Below w6.heap.size w6 u := hb.drew.below (by decide +kernel)) | (replace hb : Only (w.heap.size + 1) (w.heap.size + 1 + 1) w6 u := hb.drew.only)
  have hbz : w6.heap.size ≤ u.heap.size := hb.size
  have r13 : ρ (.tmp 13) = .pointer (some ⟨w4.heap.size, 0, none⟩) := (h0 13 (by decide +kernel)).trans rfl
  have q_l0 : ∀ o, u.cell? ⟨w.heap.size, o, none⟩ = [.slice A n c][o]? := by first | exact (HXl0.out.below hb).2.1 | exact (HXl0.out.only hb (by omega)).2.1
  have k_l0 : w.heap.size < u.heap.size := by have := HXl0.out.1; omega
  have q_e : ∀ o, u.cell? ⟨w4.heap.size, o, none⟩ = [.string t, .int .i64 (cnt l t : Nat), .int .i64 ti, .string k, .string b][o]? := by first | exact (HXe.out.below hb).2.1 | exact (HXe.out.only hb (by omega)).2.1
  have k_e : w4.heap.size < u.heap.size := by have := HXe.out.1; omega
  clear hd h0 he ha hF; go_simp; exact fE HF rfl
 ·intro gh ρ u hc hf1 hg1 hd h0 hb he ha hF
  first | (replace hb : Below w6.heap.size w6 u := hb.drew.below (by decide +kernel)) | (replace hb : Only (w.heap.size + 1) (w.heap.size + 1 + 1) w6 u := hb.drew.only)
  have hbz : w6.heap.size ≤ u.heap.size := hb.size
  have r44 : ρ (.tmp 44) = .agg #[.string t, .int .i64 (cnt l t : Nat), .int .i64 ti, .string k, .string b] := (hd 4 (by decide +kernel) 44 (by kernel_rfl)).trans (fG HF (hF 4))
  clear hd h0 he ha hF; go_simp
  rw [HF.out]
  exact ⟨aX.of_below ((Below.refl _ _).alloc (Nat.le_refl _) _), rfl, by simp, aa.new _ _ _⟩
 ·intro gh ρ u hc hf1 hg1 hd h0 hb he ha hF
  first | (replace hb : Below w6.heap.size w6 u := hb.drew.below (by decide +kernel)) | (replace hb : Only (w.heap.size + 1) (w.heap.size + 1 + 1) w6 u := hb.drew.only)
  have hbz : w6.heap.size ≤ u.heap.size := hb.size
  have f3 : ∃ (A3 : Option Addr) (c3 : Nat), (gh 3).v = .slice A3 n c3 ∧ bL (inG (gh 3) [(gh 0)]) u 41 5 (.slice A3 n c3) (n) (aR l) := fG HF (hF 3)
  obtain ⟨A3, c3, hv3, hrow3⟩ := f3
  have r43 : ρ (.tmp 43) = .slice A3 n c3 := (hd 3 (by decide +kernel) 43 (by kernel_rfl)).trans hv3
  have f5 : (gh 5).v = .slice (some ⟨(gh 5).s, 0, none⟩) 1 1 ∧ (gh 5).s < (gh 5).e ∧ aa u (gh 5).s (aR [(aY l t ti k b)]) := fG HF (hF 5)
  obtain ⟨hv5, hlt5, hnb5⟩ := f5
  have r45 : ρ (.tmp 45) = .slice (some ⟨(gh 5).s, 0, none⟩) 1 1 := (hd 5 (by decide +kernel) 45 (by kernel_rfl)).trans hv5
  clear hv3 hv5 hd h0 he ha hF
  refine gapp1Ent _ _ rfl _ (n) (aR l) r43 hrow3 _ (aY l t ti k b) r45 hnb5 (by omega) ?_
  intro A' c' u' hrow hlt hg
  rw [HF.out]
  have hS : ∀ k, inG (gh 3) [gh 0] k → ∃ z ∈ ([3, 0] : List Nat), (gh z).s ≤ k ∧ k < (gh z).e := by
   rintro k (h | ⟨t, ht, h⟩)
   ·exact ⟨3, by decide, h⟩
   simp only [List.mem_cons, List.not_mem_nil, or_false] at ht
   rcases ht with rfl
   exact ⟨0, by decide, h⟩
  refine ⟨⟨hg.os, hg.tape, hg.output, hg.size, fun k hk hd' _ => hg.block k hk (fun e => ?_)⟩, A', c', rfl, ?_⟩
  ·obtain ⟨z, hz, h1, h2⟩ := hS k (hrow3.at_ k e.symm); have := hd' (gh z) (List.mem_map.2 ⟨z, hz, rfl⟩); omega
  exact bL.widen hrow (fun k hk => .inr (let ⟨z, hz, h⟩ := hS k hk; ⟨gh z, List.mem_map.2 ⟨z, hz, rfl⟩, h⟩)) (fun e => .inl ⟨Nat.le_refl _, hlt _ e⟩)
 ·intro gh ρ u hc hf1 hg1 hd h0 hb he ha hF
  have f6 : ∃ (A4 : Option Addr) (c4 : Nat), (gh 6).v = .slice A4 (n + 1) c4 ∧ bL (inG (gh 6) [(gh 3), (gh 0)]) u 41 5 (.slice A4 (n + 1) c4) ((n + 1)) ((aR l ++ aR [aY l t ti k b])) := fG HF (hF 6)
  obtain ⟨A4, c4, hv6, hrow6⟩ := f6; have hrt6 := hv6
  have r46 : ρ (.tmp 46) = .slice A4 (n + 1) c4 := (hd 6 (by decide +kernel) 46 (by kernel_rfl)).trans hv6
  have HRT6 := lH hrt6
  clear hv6 hrt6 hd h0 he ha hF; go_simp
  rw [HF.out]
  exact ⟨aX.refl _ _, A4, c4, HRT6.out, rfl⟩
 ·intro gh ρ u hc hf1 hg1 hd h0 hb he ha hF
  have r5 : ρ (.tmp 5) = .pointer (some ⟨w.heap.size, 0, none⟩) := (h0 5 (by decide +kernel)).trans rfl
  clear hd h0 he ha hF; go_simp; exact fE HF rfl
 ·intro gh ρ u hc hf1 hg1 hd h0 hb he ha hF
  first | (replace hb : Below w6.heap.size w6 u := hb.drew.below (by decide +kernel)) | (replace hb : Only (w.heap.size + 1) (w.heap.size + 1 + 1) w6 u := hb.drew.only)
  have hbz : w6.heap.size ≤ u.heap.size := hb.size
  have r48 : ρ (.tmp 48) = .pointer (some ⟨(w.heap.size), 0, none⟩) := (hd 8 (by decide +kernel) 48 (by kernel_rfl)).trans (fG HF (hF 8))
  have q_l0 : ∀ o, u.cell? ⟨w.heap.size, o, none⟩ = [.slice A n c][o]? := by first | exact (HXl0.out.below hb).2.1 | exact (HXl0.out.only hb (by omega)).2.1
  have k_l0 : w.heap.size < u.heap.size := by have := HXl0.out.1; omega
  have q_e : ∀ o, u.cell? ⟨w4.heap.size, o, none⟩ = [.string t, .int .i64 (cnt l t : Nat), .int .i64 ti, .string k, .string b][o]? := by first | exact (HXe.out.below hb).2.1 | exact (HXe.out.only hb (by omega)).2.1
  have k_e : w4.heap.size < u.heap.size := by have := HXe.out.1; omega
  clear hd h0 he ha hF; go_simp; exact fE HF rfl
 ·intro gh ρ u hc hf1 hg1 hd h0 hb he ha hF
  have r49 : ρ (.tmp 49) = .slice A n c := (hd 9 (by decide +kernel) 49 (by kernel_rfl)).trans (fG HF (hF 9))
  clear hd h0 he ha hF; go_simp; exact fE HF rfl
 ·intro gh ρ u hc hf1 hg1 hd h0 hb he ha hF
  first | (replace hb : Below w6.heap.size w6 u := hb.drew.below (by decide +kernel)) | (replace hb : Only (w.heap.size + 1) (w.heap.size + 1 + 1) w6 u := hb.drew.only)
  have hbz : w6.heap.size ≤ u.heap.size := hb.size
  have r10 : ρ (.tmp 10) = .pointer (some ⟨w.heap.size + 1, 0, none⟩) := (h0 10 (by decide +kernel)).trans rfl
  have f7 : ∃ (A4 : Option Addr) (c4 : Nat), (gh 6).v = .slice A4 (n + 1) c4 ∧ (gh 7).v = .agg #[.slice A4 (n + 1) c4] := fG HF (hF 7)
  obtain ⟨A4, c4, hrt6, hv7⟩ := f7
  have r47 : ρ (.tmp 47) = .agg #[.slice A4 (n + 1) c4] := (hd 7 (by decide +kernel) 47 (by kernel_rfl)).trans hv7
  have HRT6 := lH hrt6
  obtain ⟨hzk, hzc, hzf⟩ := HXr0.out.below hb
  clear hv7 hrt6 hd h0 he ha hF; go_simp
  rw [HF.out]
  refine ⟨?_, A4, c4, HRT6.out, ?_⟩
  ·refine aX.of_z (lo := w.heap.size + 1) (hi := w.heap.size + 1 + 1) ?_ rfl; refine Only.setCell ?_ (by exact Nat.le_refl _) (by exact Nat.lt_succ_self _) _; exact Only.refl _ _ _
  show aa _ (w.heap.size + 1) _
  exact ⟨by simpa [World.setCell] using hzk, fun o => by rcases o with _ | o <;> go_simp, fun o => by go_simp⟩
 ·intro gh ρ u hc hf1 hg1 hd h0 hb he ha hF
  have r50 : ρ (.tmp 50) = .int .i64 (n : Nat) := (hd 10 (by decide +kernel) 50 (by kernel_rfl)).trans (fG HF (hF 10))
  clear hd h0 he ha hF; go_simp; exact fE HF rfl
 ·intro gh ρ u hc hf1 hg1 hd h0 hb he ha hF
  clear hd h0 he ha hF; go_simp; exact fE HF rfl
 intro gh w7 hB hE hA hF
 replace hB : Only (w.heap.size + 1) (w.heap.size + 1 + 1) w6 w7 := hB.only
 have f1 : (gh 1).v = .pointer (some ⟨(w.heap.size), 0, none⟩) := fG HF (hF 1)
 have f2 : (gh 2).v = .slice A n c := fG HF (hF 2)
 have f4 : (gh 4).v = .agg #[.string t, .int .i64 (cnt l t : Nat), .int .i64 ti, .string k, .string b] := fG HF (hF 4)
 have f5 : (gh 5).v = .slice (some ⟨(gh 5).s, 0, none⟩) 1 1 ∧ (gh 5).s < (gh 5).e ∧ aa w7 (gh 5).s (aR [(aY l t ti k b)]) := fG HF (hF 5)
 have f6 : ∃ (A4 : Option Addr) (c4 : Nat), (gh 6).v = .slice A4 (n + 1) c4 ∧ bL (inG (gh 6) [(gh 3), (gh 0)]) w7 41 5 (.slice A4 (n + 1) c4) ((n + 1)) ((aR l ++ aR [aY l t ti k b])) := fG HF (hF 6)
 have f7 : ∃ (A4 : Option Addr) (c4 : Nat), (gh 6).v = .slice A4 (n + 1) c4 ∧ (gh 7).v = .agg #[.slice A4 (n + 1) c4] := fG HF (hF 7)
 have f8 : (gh 8).v = .pointer (some ⟨(w.heap.size), 0, none⟩) := fG HF (hF 8)
 have f9 : (gh 9).v = .slice A n c := fG HF (hF 9)
 have f10 : (gh 10).v = .int .i64 (n : Nat) := fG HF (hF 10)
 have f11 : ∃ (A4 : Option Addr) (c4 : Nat), (gh 6).v = .slice A4 (n + 1) c4 ∧ aa w7 (w.heap.size + 1) [.slice A4 (n + 1) c4] := fG HF (hF 11)
 have f12 : (gh 12).v = .int .i64 (n : Nat) := fG HF (hF 12)
 have f13 : (gh 13).v = .int .i64 0 := fG HF (hF 13)
 obtain ⟨A4, c4, hv6, hrow6⟩ := f6
 have hv1 := f1
 have hv2 := f2
 have hv4 := f4
 obtain ⟨hv5, -⟩ := f5
 obtain ⟨A4_7, c4_7, hu6, hv7⟩ := f7
 replace hu6 := hv6.symm.trans hu6
 simp at hu6
 try simp only [and_assoc] at hu6
 obtain ⟨rfl, rfl⟩ := hu6
 have hv8 := f8
 have hv9 := f9
 have hv10 := f10
 obtain ⟨A4_11, c4_11, hu6, hx11⟩ := f11
 replace hu6 := hv6.symm.trans hu6
 simp at hu6
 try simp only [and_assoc] at hu6
 obtain ⟨rfl, rfl⟩ := hu6
 have hv12 := f12
 have hv13 := f13
 obtain ⟨hs0, hse0, he0⟩ := hE 0 (by decide +kernel)
 obtain ⟨hs3, hse3, he3⟩ := hE 3 (by decide +kernel)
 obtain ⟨hs6, hse6, he6⟩ := hE 6 (by decide +kernel)
 have hdj7_0_3 := hA 0 (by decide +kernel) 3 (by decide +kernel) (by decide)
 have hdj7_0_6 := hA 0 (by decide +kernel) 6 (by decide +kernel) (by decide)
 have hdj7_3_6 := hA 3 (by decide +kernel) 6 (by decide +kernel) (by decide)
 change w6.heap.size ≤ _ at hs0 hs3 hs6
 have hS : ∀ k, inG (gh 6) [gh 3, gh 0] k → w6.heap.size ≤ k ∧ k < w7.heap.size := by
  rintro k (h | ⟨t, ht, h⟩)
  ·omega
  simp only [List.mem_cons, List.not_mem_nil, or_false] at ht
  rcases ht with rfl | rfl <;> omega
 have hrwr := hrow6.row
 obtain ⟨hrcr, hrnr, hror⟩ := hrow6.own hS (Nat.le_refl _)
 clear hS hrow6
 clear hE hA hF
 generalize (gh 0).v = vq0 at *
 generalize (gh 3).v = vq3 at *
 simp only [dY, Nat.reduceAdd, hv1, hv2, hv4, hv5, hv6, hv7, hv8, hv9, hv10, hv12, hv13]
 clear hv1 hv2 hv4 hv5 hv6 hv7 hv8 hv9 hv10 hv12 hv13
 generalize (gh 0).s = s7_0 at *
 generalize (gh 0).e = e7_0 at *
 generalize (gh 3).s = s7_3 at *
 generalize (gh 3).e = e7_3 at *
 generalize (gh 6).s = s7_6 at *
 generalize (gh 6).e = e7_6 at *
 clear HF
 have hb := hB
 clear hB
 have hzw7 : w6.heap.size ≤ w7.heap.size := hb.size
 replace HB := lH (au HB.out hb (by omega) HB.out.size)
 replace HOA := lH (HOA.out.only hb (by first | omega | (simp; omega)))
 replace HXl0 := lH (HXl0.out.only hb (by first | omega | (simp; omega)))
 clear hxl0 hfl0 hkl0
 obtain ⟨hkl0, hxl0, hfl0⟩ := HXl0.out
 clear hxr0 hfr0 hkr0 HXr0
 replace HXe := lH (HXe.out.only hb (by first | omega | (simp; omega)))
 clear hxe hfe hke
 obtain ⟨hke, hxe, hfe⟩ := HXe.out
 clear hb
 have HXr0 : Hid (aa w7 (w.heap.size + 1) [.slice A4 (n + 1) c4]) := hx11
 obtain ⟨hkr0, hxr0, hfr0⟩ := HXr0.out
 clear hx11
 have ey := addL_yes hc.out
 have el : Hid ((addL l t ti k b).length = n + 1) := by rw [Hid, ey.1, List.length_append, HN.out]; rfl
 have el2 : Hid (aR (addL l t ti k b) = aR l ++ aR [aY l t ti k b]) := by rw [Hid, ey.1, ents_app]
 have ef : Hid (addLeaf l t ti k b = (n : Nat)) := by rw [Hid, ey.2, HN.out]
 have HRO := lH hror
 have HRN := lH hrnr
 have HRC := lH hrcr
 clear ey hror hrnr hrwr hrcr
 go_wp2
 refine bodyPost_ret (v := .tuple #[.agg #[.slice A4 (n + 1) c4], .int .i64 n, .int .i64 0]) (by simp [results, Tryz.results107, go_sem, hxr0]) rfl ?_
 exact ⟨A4, c4, by rw [el.out, ef.out, hc.out], ⟨HRN.out, by rw [el.out]; exact HRC.out⟩, by rw [el2.out]; exact HRO.out.mono (by omega) (Nat.le_refl _) (Nat.le_refl _), (by ((repeat first | with_reducible apply bA | with_reducible apply bD | (with_reducible refine bS ?_ ?_; (focus (first | omega | simp <;> omega)))); exact HB.out))⟩
set_option maxRecDepth 100000 in
theorem addEntry_yes (p o base : Nat) (A : Option Addr) (c n : Nat) (l : List Ent) (t : ByteArray) (ti : Int) (k b : ByteArray) (w : World) (hp : w.cell? ⟨p, o, none⟩ = some (.slice A n c)) (hpf : w.frozen? ⟨p, o, none⟩ = false)
  (hown : w.ownsRow base 41 5 (.slice A n c) n (aR l)) (hpb : (.slice A n c : Value).ownBlock ≠ some p) (hn : l.length = n) (hl : n ≤ 512)
  (ht : t.size ≤ 1048576) (hk : k.size ≤ 1048576) (hb : b.size ≤ 1048576) (hc : bK l t ti k b = 0) (hbase : base ≤ w.heap.size) :
  Calls Tryz.prog 136 #[.pointer (some ⟨p, o, none⟩), .string t, .int .i64 ti, .string k, .string b] w fun e w' => ∃ (g cap : Nat) (w1 : World), e = .returned (.tuple #[.int .i64 n, .int .i64 0]) ∧
   w1.ownsRow base 41 5 (.slice (some ⟨g, 0, none⟩) (n + 1) cap) (n + 1) (aR (l ++ [aY l t ti k b])) ∧ w.grownBy w1 (.slice A n c : Value).ownBlock ∧ ((.slice A n c : Value).ownBlock = some g ∨ w.heap.size ≤ g) ∧
   w' = w1.setCell ⟨p, o, none⟩ (.slice (some ⟨g, 0, none⟩) (n + 1) cap) := by
 have HN := lH hn
 have HC := lH hc
 have hpz := World.block_lt_of_cell? w _ hp
 have HO := lH hown
 have HB := lH hpb
 obtain ⟨A0, c0, e0, _, _, hO⟩ := ay hown
 injection e0 with e1 e2 e3
 subst e1
 subst e3
 have HRD := lH hO.rd
 obtain ⟨i0, hi0, hz0, hz1, hz2⟩ := info_parts info_Entry
 clear hn hc hown hpb hO e2
 go_enter Tryz.func136, Tryz.ntmps136
 go_wp2_with fail
 refine (implNameOk_c t _ (by unfold maxLen; omega)).mono ?_
 rintro e w1 ⟨rfl, rfl⟩
 rcases h1 : bU t with _ | _
 ·have h := HC.out; rw [bK, h1] at h; cases h
 have H1 := lH h1
 clear h1
 go_wp2_with fail
 refine (partsOk_c ti k b _ (by unfold maxLen; omega) (by unfold maxLen; omega)).mono ?_
 rintro e w1 ⟨rfl, rfl⟩
 rcases h2 : dG ti k b with _ | _
 ·have h := HC.out; rw [bK, H1.out, h2] at h; cases h
 have H2 := lH h2
 clear h2
 have h5 : n < 512 := by
  have h := HC.out
  rw [bK, H1.out, H2.out, HN.out, if_pos rfl, if_pos rfl] at h
  by_cases h5 : 512 ≤ n
  ·rw [if_pos (by simpa using h5)] at h; cases h
  omega
 go_wp2_with fail
 refine (nextOf_c A c _ _ n l t _ HRD.out HN.out (by omega)).mono ?_
 rintro e w2 ⟨rfl, hb2⟩
 have hp2 := cell_later hb2 hp
 have hpf2 := froz_later hb2 hp hpf
 have hz2' : w.heap.size ≤ w2.heap.size := hb2.size
 have HB2 := lH hb2
 have HO2 : Hid (w2.ownsRow base 41 5 (.slice A n c) n (aR l)) := HO.out.kept (row := none) ⟨hb2.os, hb2.tape, hb2.output, hb2.size, fun k hk _ => hb2.block k hk⟩ (by
  rcases hx : (.slice A n c : Value).ownBlock with _ | q
  ·exact .inl rfl
  exact .inr (by intro h; cases h))
 clear hb2
 go_wp2_with fail
 refine aD (fun w3 hw => ?_)
 have hz3 : w3.heap.size = w2.heap.size + 1 := by rw [hw]; simp
 have hp3 : w3.cell? ⟨p, o, none⟩ = some (.slice A n c) := by rw [hw]; exact cell_alloc_old _ _ hp2
 have hpf3 : w3.frozen? ⟨p, o, none⟩ = false := by rw [hw]; exact froz_alloc_old _ _ hp2 hpf2
 have HE : Hid (aa w3 w2.heap.size [.string t, .int .i64 (cnt l t : Nat), .int .i64 ti, .string k, .string b]) := by
  rw [Hid, hw]; exact ⟨by simp, fun o => by rcases o with _ | _ | _ | _ | _ | o <;> go_simp, fun o => by go_simp⟩
 have HO3 : Hid (w3.ownsRow base 41 5 (.slice A n c) n (aR l)) := by rw [Hid, hw]; exact HO2.out.alloc _
 have HG3 : Hid (w.grownBy w3 none) := by rw [Hid, hw]; exact grown_below (ak HB2.out ((Below.refl _ _).alloc (Nat.le_refl _) _) HB2.out.size)
 clear hw
 have hxe := HE.out.2.1
 have hp3z : p < w3.heap.size := by omega
 have hz3' : w2.heap.size < w3.heap.size := by omega
 have HZ3 := lH hz3
 clear hz3
 have HE2 : Hid ((.slice A n c : Value).ownBlock ≠ some w2.heap.size) := fun h => by have := (HO.out.lt _ h).2; omega
 go_region_law
  ((refine step_append_lies _ (by rfl) _ _ _ (by rfl) base 41 i0 _ 5 64 Tryz.underlying24 hi0 hz0 hz1 hz2 rfl (by omega) (.slice A n c) n (aR l) (by rfl) ((HO3.out.alloc _).drew)
      ⟨w3.heap.size, 0, none⟩ 1 1 (aR [aY l t ti k b]) (by rfl) (by rfl) (World.news_of_block (heap_alloc_new w3 _)) (cloneEnt_one _)
      (by omega) (by unfold maxLen; omega) (by omega) (by simp; omega) (w3.heap.size + 1) (by simp) ?_; intro gg cap w4 hown4 hgrow hat hlt
    have hp4 : w4.cell? ⟨p, o, none⟩ = some (.slice A n c) := (World.cell?_of_block (hgrow.block p (by simp; omega) (Ne.symm HB.out))).trans (by go_simp)
    have hpf4 : w4.frozen? ⟨p, o, none⟩ = false := (World.frozen?_of_block (hgrow.block p (by simp; omega) (Ne.symm HB.out))).trans (by go_simp)
    ))
 all_goals
  go_wp2
  go_ret2
  rw [← ents_app] at hown4
  refine ⟨gg, cap, w4, rfl, hown4, ?_, hat.imp id (fun h => by omega), rfl⟩
  have hb4 : Below w3.heap.size w3 ((w3.alloc (.cells #[.string t, .int .i64 (cnt l t : Nat), .int .i64 ti, .string k, .string b] 41)).drew) := ((Below.refl _ _).alloc (Nat.le_refl _) _).drew
  have hs3 := HG3.out.size
  exact ⟨hgrow.os.trans HG3.out.os, hgrow.tape.trans HG3.out.tape, hgrow.output.trans HG3.out.output, Nat.le_trans HG3.out.size (Nat.le_trans hb4.size hgrow.size), fun q hq hne => (hgrow.block q (Nat.lt_of_lt_of_le (Nat.lt_of_lt_of_le hq hs3) hb4.size) hne).trans ((hb4.block q (by omega)).trans (HG3.out.block q hq (by intro h; cases h)))⟩
set_option maxRecDepth 100000 in
theorem copyLog_c (A : Option Addr) (c lo hi n : Nat) (l : List Ent) (w : World) (hr : Rd w lo hi A (aR l)) (hn : l.length = n) (hl : n ≤ 1048576) (hA : A = none → c = 0) :
  Calls Tryz.prog 132 #[.agg #[.slice A n c]] w fun e w' => ∃ (A' : Option Addr) (c' : Nat), e = .returned (.agg #[.slice A' n c']) ∧ w'.ownsRow w.heap.size 41 5 (.slice A' n c') n (aR l) ∧ Below w.heap.size w w' := by
 have HN := lH hn
 clear hn
 go_enter Tryz.func132, Tryz.ntmps132
 have HB : Hid (Below w.heap.size w w) := Below.refl _ _
 have HOA : Hid (Rd w (0) (w.heap.size) (A) (aR l)) := Rd.base hr
 clear hr
 go_wp2_with fail
 refine af (fun w1 hw => ?_)
 have hz1 : w.heap.size + 2 ≤ w1.heap.size := zA
 have hbn : Below w.heap.size w w1 := zB
 replace HB := bT HB hbn
 replace HOA := lH (HOA.out.below hbn)
 clear hbn
 have HXl0 : Hid (aa w1 (w.heap.size) [.slice A n c]) := zG1
 obtain ⟨hkl0, hxl0, hfl0⟩ := HXl0.out
 have HXr0 : Hid (aa w1 (w.heap.size + 1) [.slice none 0 0]) := zG1
 obtain ⟨hkr0, hxr0, hfr0⟩ := HXr0.out
 clear hw
 refine (cloneEntR_c A c _ _ n l _ HOA.out HN.out hl hA).mono ?_
 rintro e w2 ⟨A', c', rfl, hrow, hb⟩
 have hzw2 : w1.heap.size ≤ w2.heap.size := hb.size
 replace HB := bT HB hb
 replace HOA := lH (HOA.out.below hb)
 replace HXl0 := nB HXl0 hb
 clear hxl0 hfl0 hkl0
 obtain ⟨hkl0, hxl0, hfl0⟩ := HXl0.out
 replace HXr0 := nB HXr0 hb
 clear hxr0 hfr0 hkr0
 obtain ⟨hkr0, hxr0, hfr0⟩ := HXr0.out
 clear hb
 go_wp2
 refine bodyPost_ret (v := .agg #[.slice A' n c']) (by simp [results, Tryz.results132, go_sem, World.cell?_setCell_same _ _ _ (HXr0.out.cell (o := 0) rfl)]) rfl ?_
 exact ⟨A', c', rfl, ownsRow_lower (ownsRow_setCell hrow (by simp; omega) _) (by omega), (by ((repeat first | with_reducible apply bA | with_reducible apply bD | (with_reducible refine bS ?_ ?_; (focus (first | omega | simp <;> omega)))); exact HB.out))⟩
end
end Go.Proofs.YtoccjgcokffkbaaGreat
