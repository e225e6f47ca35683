/- Part 17 of the proof of FnDeeds: lemmas and contracts. -/
import Derived.Test.YtoccjgcokffkbaaGreatTd16
import Derived.StillTailTactics
namespace Go.Proofs.YtoccjgcokffkbaaGreat
set_option linter.unusedVariables false
set_option linter.unusedSimpArgs false
set_option maxHeartbeats 20000000
section
open Go.RowKit
theorem gJ {lo : Nat} {a b c : World} (h : Only lo a.heap.size a b) (k : Only lo b.heap.size b c) : Only lo a.heap.size a c :=
 ⟨k.os.trans h.os, k.tape.trans h.tape, k.output.trans h.output, Nat.le_trans h.size k.size, fun i hi hd => (k.block i (Nat.lt_of_lt_of_le hi h.size) (by omega)).trans (h.block i hi hd)⟩
def Apart (v1 v2 : Value) : Prop := ∀ k, v1.ownBlock = some k → v2.ownBlock ≠ some k
theorem Apart.symm {v1 v2 : Value} (h : Apart v1 v2) : Apart v2 v1 := fun k h1 h2 => h k h2 h1
theorem Apart.next {w w' : World} {p o m base : Nat} {v v1 v1' : Value} {xs : List Value} (h : Apart v v1) (hg : bV p o v1 v1' w w') (hr : w.ownsRow base 9 1 v m xs) : Apart v v1' := fun k hk e =>
 (hg.own k e).elim (h k hk) (fun h2 => by have := (hr.lt k hk).2; omega)
theorem cB.keepG {w w' : World} {base p o o' m : Nat} {n : Int} {v v1 v1' : Value} {l : List ByteArray} (h : cB w base p o n v m l) (hg : bV p o' v1 v1' w w') (ht : Typed w' p) (hne : Apart v v1) (h1 : o ≠ o' ∧ o ≠ o' + 1 ∧ o + 1 ≠ o') :
  cB w' base p o n v m l := by
 refine ⟨ht, (hg.cell o h1.1 h1.2.1).trans h.c0, (hg.cell (o + 1) h1.2.2 (by omega)).trans h.c1, h.row.1, ?_⟩
 rcases h.row.2 with h2 | ⟨g, cap, cur, h2, h3, h4, h5⟩
 ·exact .inl h2
 have hb : v.ownBlock = some g := by rw [h2]; rfl
 have hlt := (h.row.lt g hb).2
 exact .inr ⟨g, cap, cur, h2, h3, (hg.block g hlt (fun e => h.typed.not_row h.row (by rw [hb, e])) (fun e => hne g hb e.symm)).trans h4, h5⟩
theorem cB.setO {w : World} {base p o m j : Nat} {n : Int} {v : Value} {l : List ByteArray} (h : cB w base p o n v m l) (hj : j ≠ o ∧ j ≠ o + 1) (u : Value) : cB (w.setCell ⟨p, j, none⟩ u) base p o n v m l := by
 have hne := h.typed.not_row h.row
 refine ⟨h.typed.set _ _, ?_, ?_, ?_⟩
 ·rw [World.cell?_setCell_other _ _ _ _ (by simp only [ne_eq, Addr.mk.injEq, and_true, true_and]; omega), h.c0]
 ·rw [World.cell?_setCell_other _ _ _ _ (by simp only [ne_eq, Addr.mk.injEq, and_true, true_and]; omega), h.c1]
 exact h.row.kept (row := some p) ⟨rfl, rfl, rfl, by simp [World.setCell], fun k hk hn => Below.heap_setCell _ _ _ _ (fun e => hn (congrArg some e))⟩ (.inr (fun e => hne e.symm))
theorem row_one {w : World} {base m c : Nat} {A : Option Addr} {xs : List Value} (h : w.ownsRow base 9 1 (.slice A m c) m xs) (hb : base ≤ w.heap.size) :
  (xs = []) ∨ ∃ g, A = some ⟨g, 0, none⟩ ∧ base ≤ g ∧ g < w.heap.size ∧ Own w g (g + 1) A xs := by
 rcases h.2 with ⟨h1, h2⟩ | ⟨g, cap, cur, h1, h2, h3, h4⟩
 ·refine .inl (List.eq_nil_of_length_eq_zero ?_)
  rw [h.1, h2]
 injection h1 with e1 e2 e3
 subst e1
 subst e3
 have hlt := (h.lt g rfl).2
 refine .inr ⟨g, rfl, h2, hlt, ?_⟩
 have h5 : w.ownsRow g 9 1 (.slice (some ⟨g, 0, none⟩) m c) m xs := ⟨h.1, .inr ⟨g, c, cur, rfl, Nat.le_refl _, h3, h4⟩⟩
 exact (Own.bg h5).tight
theorem head_set {w : World} {p : Nat} (a0 a1 a2 a3 a4 : Value) (h : ∀ j, 4 ≤ j → j < 9 → ∃ v, w.cell? ⟨p, j, none⟩ = some v) :
  let w' := ((((w.setCell ⟨p, 4, none⟩ a0).setCell ⟨p, 5, none⟩ a1).setCell ⟨p, 6, none⟩ a2).setCell ⟨p, 7, none⟩ a3).setCell ⟨p, 8, none⟩ a4
  w'.cell? ⟨p, 4, none⟩ = some a0 ∧ w'.cell? ⟨p, 5, none⟩ = some a1 ∧ w'.cell? ⟨p, 6, none⟩ = some a2 ∧ w'.cell? ⟨p, 7, none⟩ = some a3 ∧ w'.cell? ⟨p, 8, none⟩ = some a4 := by
 obtain ⟨v4, h4⟩ := h 4 (by omega) (by omega)
 obtain ⟨v5, h5⟩ := h 5 (by omega) (by omega)
 obtain ⟨v6, h6⟩ := h 6 (by omega) (by omega)
 obtain ⟨v7, h7⟩ := h 7 (by omega) (by omega)
 obtain ⟨v8, h8⟩ := h 8 (by omega) (by omega)
 have no : ∀ (W : World) (i j : Nat) (v : Value), i ≠ j → (W.setCell ⟨p, i, none⟩ v).cell? ⟨p, j, none⟩ = W.cell? ⟨p, j, none⟩ := fun W i j v hij => World.cell?_setCell_other _ _ _ _ (by simp only [ne_eq, Addr.mk.injEq, and_true, true_and]; omega)
 refine ⟨?_, ?_, ?_, ?_, ?_⟩
 ·rw [no _ 8 4 _ (by omega), no _ 7 4 _ (by omega), no _ 6 4 _ (by omega), no _ 5 4 _ (by omega)]; exact World.cell?_setCell_same _ _ _ h4
 ·rw [no _ 8 5 _ (by omega), no _ 7 5 _ (by omega), no _ 6 5 _ (by omega)]; exact World.cell?_setCell_same _ _ _ ((no _ 4 5 _ (by omega)).trans h5)
 ·rw [no _ 8 6 _ (by omega), no _ 7 6 _ (by omega)]; exact World.cell?_setCell_same _ _ _ ((no _ 5 6 _ (by omega)).trans ((no _ 4 6 _ (by omega)).trans h6))
 ·rw [no _ 8 7 _ (by omega)]; exact World.cell?_setCell_same _ _ _ ((no _ 6 7 _ (by omega)).trans ((no _ 5 7 _ (by omega)).trans ((no _ 4 7 _ (by omega)).trans h7)))
 ·exact World.cell?_setCell_same _ _ _ ((no _ 7 8 _ (by omega)).trans ((no _ 6 8 _ (by omega)).trans ((no _ 5 8 _ (by omega)).trans ((no _ 4 8 _ (by omega)).trans h8))))
def dI (p : Nat) (w w' : World) : Prop := w.heap.size ≤ w'.heap.size ∧ ∀ k, k ≠ p → Typed w k → w'.heap[k]? = w.heap[k]?
theorem dI.trans {p : Nat} {a b c : World} (h : dI p a b) (k : dI p b c) : dI p a c := ⟨Nat.le_trans h.1 k.1, fun i hi ht => (k.2 i hi (ht.keep (h.2 i hi ht))).trans (h.2 i hi ht)⟩
theorem dI.grow {w w' : World} {p o m base : Nat} {v v' : Value} {xs : List Value} (hg : bV p o v v' w w') (hr : w.ownsRow base 9 1 v m xs) : dI p w w' := ⟨hg.size, fun k hk ht => hg.block k ht.lt hk (ht.not_row hr)⟩
theorem dI.below {p : Nat} {w w' : World} (hb : Below w.heap.size w w') : dI p w w' := ⟨hb.size, fun k _ ht => hb.block k ht.lt⟩
theorem dI.set {p : Nat} {w w' : World} (h : dI p w w') (j : Nat) (u : Value) : dI p w (w'.setCell ⟨p, j, none⟩ u) :=
 ⟨by simpa [World.setCell] using h.1, fun k hk ht => (Below.heap_setCell _ _ _ _ (fun e => hk e)).trans (h.2 k hk ht)⟩
theorem dI.box {p k : Nat} {w w' : World} {cs : List Value} (h : dI p w w') (hx : aa w k cs) (hk : k ≠ p) (ht : Typed w k) : aa w' k cs := hx.keep h.1 (h.2 k hk ht)
set_option maxRecDepth 100000 in
theorem copySeal_c (z1 z2 : Int) (A1 A2 : Option Addr) (c1 c2 lo1 hi1 lo2 hi2 m1 m2 : Nat) (l1 l2 : List ByteArray) (h : Hd) (w : World) (hR1 : Rd w lo1 hi1 A1 (strs l1)) (hR2 : Rd w lo2 hi2 A2 (strs l2)) (hn1 : l1.length = m1) (hn2 : l2.length = m2) (hm1 : m1 ≤ 1048576) (hm2 : m2 ≤ 1048576) (hA1 : A1 = none → c1 = 0) (hA2 : A2 = none → c2 = 0) :
  Calls Tryz.prog 135 #[.agg #[.int .i64 z1, .slice A1 m1 c1, .int .i64 z2, .slice A2 m2 c2, .int .i64 h.num, .int .i64 h.size, .string h.root, .int .i64 h.taken, .string h.troot]] w fun e w' => ∃ A3 c3 A4 c4, e = .returned (.agg #[.int .i64 z1, .slice A3 m1 c3, .int .i64 z2, .slice A4 m2 c4, .int .i64 h.num, .int .i64 h.size, .string h.root, .int .i64 h.taken, .string h.troot]) ∧
   w'.ownsRow w.heap.size 9 1 (.slice A3 m1 c3) m1 (strs l1) ∧ w'.ownsRow w.heap.size 9 1 (.slice A4 m2 c4) m2 (strs l2) ∧ Apart (.slice A3 m1 c3) (.slice A4 m2 c4) ∧ Below w.heap.size w w' := by
 have HC1 := lH (fun W (r : Rd W 0 W.heap.size A1 (strs l1)) => copyRange_c z1 A1 c1 0 W.heap.size m1 l1 W r hn1 hm1 hA1)
 have HC2 := lH (fun W (r : Rd W 0 W.heap.size A2 (strs l2)) => copyRange_c z2 A2 c2 0 W.heap.size m2 l2 W r hn2 hm2 hA2)
 have HB : Hid (Below w.heap.size w w) := Below.refl _ _
 have HOA : Hid (Rd w (0) (w.heap.size) (A1) (strs l1)) := Rd.base hR1
 have HOB : Hid (Rd w (0) (w.heap.size) (A2) (strs l2)) := Rd.base hR2
 clear hR1 hR2 hn1 hn2 hA1 hA2
 go_enter Tryz.func135, Tryz.ntmps135
 go_wp2_with fail
 refine aD (fun w1 hw => ?_)
 have hz1 : w.heap.size + 2 ≤ w1.heap.size := zA
 have hbn : Below w.heap.size w w1 := zB
 replace HB := bT HB hbn
 replace HOA := lH (HOA.out.below hbn)
 replace HOB := lH (HOB.out.below hbn)
 clear hbn
 have HXs : Hid (aa w1 (w.heap.size) [.int .i64 z1, .slice A1 m1 c1, .int .i64 z2, .slice A2 m2 c2, .int .i64 h.num, .int .i64 h.size, .string h.root, .int .i64 h.taken, .string h.troot]) := zG9
 obtain ⟨hks, hxs, hfs⟩ := HXs.out
 have HXq : Hid (aa w1 (w.heap.size + 1) [.int .i64 0, .slice none 0 0, .int .i64 0, .slice none 0 0, .int .i64 0, .int .i64 0, .string ⟨#[]⟩, .int .i64 0, .string ⟨#[]⟩]) := zG9
 obtain ⟨hkq, hxq, hfq⟩ := HXq.out
 clear hw
 obtain ⟨F, HF⟩ : ∃ F : Facts, Hid (F = fun iq xq tqs dsq uq => match iq with
  | 0 => xq.v = .pointer (some ⟨(w.heap.size), 0, none⟩)
  | 1 => xq.v = .agg #[.int .i64 z1, .slice A1 m1 c1]
  | 2 => ∃ (A3 : Option Addr) (c3 : Nat), xq.v = .agg #[.int .i64 z1, .slice A3 m1 c3] ∧ (aT uq xq.s xq.e (.slice A3 m1 c3, m1) (strs l1))
  | 3 => xq.v = .pointer (some ⟨(w.heap.size), 2, none⟩)
  | 4 => xq.v = .agg #[.int .i64 z2, .slice A2 m2 c2]
  | 5 => ∃ (A4 : Option Addr) (c4 : Nat), xq.v = .agg #[.int .i64 z2, .slice A4 m2 c4] ∧ (aT uq xq.s xq.e (.slice A4 m2 c4, m2) (strs l2))
  | 6 => xq.v = .pointer (some ⟨(w.heap.size), 4, none⟩)
  | 7 => xq.v = .agg #[.int .i64 h.num, .int .i64 h.size, .string h.root, .int .i64 h.taken, .string h.troot]
  | 8 => (match tqs, dsq with | [], [yq0, yq1] => ∃ (A3 : Option Addr) (c3 : Nat), yq0.v = .agg #[.int .i64 z1, .slice A3 m1 c3] ∧ ∃ (A4 : Option Addr) (c4 : Nat), yq1.v = .agg #[.int .i64 z2, .slice A4 m2 c4] ∧ xq.v = .agg #[.int .i64 z1, .slice A3 m1 c3, .int .i64 z2, .slice A4 m2 c4, .int .i64 h.num, .int .i64 h.size, .string h.root, .int .i64 h.taken, .string h.troot] | _, _ => False)
  | 9 => (match tqs, dsq with | [], [yq0, yq1] => ∃ (A3 : Option Addr) (c3 : Nat), yq0.v = .agg #[.int .i64 z1, .slice A3 m1 c3] ∧ ∃ (A4 : Option Addr) (c4 : Nat), yq1.v = .agg #[.int .i64 z2, .slice A4 m2 c4] ∧ aa uq (w.heap.size + 1) [.int .i64 z1, .slice A3 m1 c3, .int .i64 z2, .slice A4 m2 c4, .int .i64 h.num, .int .i64 h.size, .string h.root, .int .i64 h.taken, .string h.troot] | _, _ => False)
  | _ => False) := ⟨_, rfl⟩
 refine bq [[], [], [], [], [], [], [], [], [2, 5], [2, 5]] [[], [], [], [], [], [], [], [], [], []] [some 3, some 4, some 5, some 6, some 7, some 8, some 9, some 10, some 11, none] (some 9) (w.heap.size + 1) (w.heap.size + 1 + 1) (.inr (by omega)) F (by kernel_rfl) (by kernel_rfl) (by kernel_rfl) ?_ ⟨?_, ?_, ?_, ?_, ?_, ?_, ?_, ?_, ?_, ?_, trivial⟩ ?_
 ·rw [HF.out]; intro iq xq tqs dsq uq u' hi hf hs hW hx hbk
  have kx : ∀ b, xq.s ≤ b → b < xq.e → u'.heap[b]? = uq.heap[b]? := fun b h1 h2 => hbk b (.inr (.inl ⟨h1, h2⟩))
  have kt : ∀ t ∈ tqs, ∀ b, t.s ≤ b → b < t.e → u'.heap[b]? = uq.heap[b]? := fun t ht b h1 h2 => hbk b (.inr (.inr ⟨t, ht, h1, h2⟩))
  match iq with
  | 0 | 1 => exact hf
  | 2 => obtain ⟨A3, c3, hv, p0⟩ := hf; exact ⟨A3, c3, hv, p0.keep (fun k _ h1 h2 => kx k h1 h2)⟩
  | 3 | 4 => exact hf
  | 5 => obtain ⟨A4, c4, hv, p0⟩ := hf; exact ⟨A4, c4, hv, p0.keep (fun k _ h1 h2 => kx k h1 h2)⟩
  | 6 | 7 | 8 => exact hf
  | 9 => match tqs, dsq, hf with | [], [yq0, yq1], hf => obtain ⟨A3, c3, hvr2, A4, c4, hvr5, hb⟩ := hf; exact ⟨A3, c3, hvr2, A4, c4, hvr5, hb.keep hs (hbk _ (.inl ⟨hkq, .inr (.inr rfl)⟩))⟩
 ·intro gh ρ u hc hf1 hg1 hd h0 hb he ha hF
  have r1 : ρ (.tmp 1) = .pointer (some ⟨w.heap.size, 0, none⟩) := (h0 1 (by decide +kernel)).trans rfl
  clear hd h0 he ha hF; go_simp; exact fE HF rfl
 ·intro gh ρ u hc hf1 hg1 hd h0 hb he ha hF
  first | (replace hb : Below w1.heap.size w1 u := hb.drew.below (by decide +kernel)) | (replace hb : Only (w.heap.size + 1) (w.heap.size + 1 + 1) w1 u := hb.drew.only)
  have hbz : w1.heap.size ≤ u.heap.size := hb.size
  have r3 : ρ (.tmp 3) = .pointer (some ⟨(w.heap.size), 0, none⟩) := (hd 0 (by decide +kernel) 3 (by kernel_rfl)).trans (fG HF (hF 0))
  have q_s : ∀ o, u.cell? ⟨w.heap.size, o, none⟩ = [.int .i64 z1, .slice A1 m1 c1, .int .i64 z2, .slice A2 m2 c2, .int .i64 h.num, .int .i64 h.size, .string h.root, .int .i64 h.taken, .string h.troot][o]? := by first | exact (HXs.out.below hb).2.1 | exact (HXs.out.only hb (by omega)).2.1
  have k_s : w.heap.size < u.heap.size := by have := HXs.out.1; omega
  clear hd h0 he ha hF; go_simp; exact fE HF rfl
 ·intro gh ρ u hc hf1 hg1 hd h0 hb he ha hF
  first | (replace hb : Below w1.heap.size w1 u := hb.drew.below (by decide +kernel)) | (replace hb : Only (w.heap.size + 1) (w.heap.size + 1 + 1) w1 u := hb.drew.only)
  have hbz : w1.heap.size ≤ u.heap.size := hb.size
  have r4 : ρ (.tmp 4) = .agg #[.int .i64 z1, .slice A1 m1 c1] := (hd 1 (by decide +kernel) 4 (by kernel_rfl)).trans (fG HF (hF 1))
  clear hd h0 he ha hF; go_simp
  have q_s := (HXs.out.below hb)
  refine (HC1.out _ (HOA.out.below hb).base).mono ?_
  rintro e u1 ⟨A3, c3, rfl, ho, hb1⟩
  rw [HF.out]
  exact ⟨_, rfl, aX.of_below hb1, A3, c3, rfl, aT.of ho⟩
 ·intro gh ρ u hc hf1 hg1 hd h0 hb he ha hF
  have r1 : ρ (.tmp 1) = .pointer (some ⟨w.heap.size, 0, none⟩) := (h0 1 (by decide +kernel)).trans rfl
  clear hd h0 he ha hF; go_simp; exact fE HF rfl
 ·intro gh ρ u hc hf1 hg1 hd h0 hb he ha hF
  first | (replace hb : Below w1.heap.size w1 u := hb.drew.below (by decide +kernel)) | (replace hb : Only (w.heap.size + 1) (w.heap.size + 1 + 1) w1 u := hb.drew.only)
  have hbz : w1.heap.size ≤ u.heap.size := hb.size
  have r6 : ρ (.tmp 6) = .pointer (some ⟨(w.heap.size), 2, none⟩) := (hd 3 (by decide +kernel) 6 (by kernel_rfl)).trans (fG HF (hF 3))
  have q_s : ∀ o, u.cell? ⟨w.heap.size, o, none⟩ = [.int .i64 z1, .slice A1 m1 c1, .int .i64 z2, .slice A2 m2 c2, .int .i64 h.num, .int .i64 h.size, .string h.root, .int .i64 h.taken, .string h.troot][o]? := by first | exact (HXs.out.below hb).2.1 | exact (HXs.out.only hb (by omega)).2.1
  have k_s : w.heap.size < u.heap.size := by have := HXs.out.1; omega
  clear hd h0 he ha hF; go_simp; exact fE HF rfl
 ·intro gh ρ u hc hf1 hg1 hd h0 hb he ha hF
  first | (replace hb : Below w1.heap.size w1 u := hb.drew.below (by decide +kernel)) | (replace hb : Only (w.heap.size + 1) (w.heap.size + 1 + 1) w1 u := hb.drew.only)
  have hbz : w1.heap.size ≤ u.heap.size := hb.size
  have r7 : ρ (.tmp 7) = .agg #[.int .i64 z2, .slice A2 m2 c2] := (hd 4 (by decide +kernel) 7 (by kernel_rfl)).trans (fG HF (hF 4))
  clear hd h0 he ha hF; go_simp
  have q_s := (HXs.out.below hb)
  refine (HC2.out _ (HOB.out.below hb).base).mono ?_
  rintro e u1 ⟨A4, c4, rfl, ho, hb1⟩
  rw [HF.out]
  exact ⟨_, rfl, aX.of_below hb1, A4, c4, rfl, aT.of ho⟩
 ·intro gh ρ u hc hf1 hg1 hd h0 hb he ha hF
  have r1 : ρ (.tmp 1) = .pointer (some ⟨w.heap.size, 0, none⟩) := (h0 1 (by decide +kernel)).trans rfl
  clear hd h0 he ha hF; go_simp; exact fE HF rfl
 ·intro gh ρ u hc hf1 hg1 hd h0 hb he ha hF
  first | (replace hb : Below w1.heap.size w1 u := hb.drew.below (by decide +kernel)) | (replace hb : Only (w.heap.size + 1) (w.heap.size + 1 + 1) w1 u := hb.drew.only)
  have hbz : w1.heap.size ≤ u.heap.size := hb.size
  have r9 : ρ (.tmp 9) = .pointer (some ⟨(w.heap.size), 4, none⟩) := (hd 6 (by decide +kernel) 9 (by kernel_rfl)).trans (fG HF (hF 6))
  have q_s : ∀ o, u.cell? ⟨w.heap.size, o, none⟩ = [.int .i64 z1, .slice A1 m1 c1, .int .i64 z2, .slice A2 m2 c2, .int .i64 h.num, .int .i64 h.size, .string h.root, .int .i64 h.taken, .string h.troot][o]? := by first | exact (HXs.out.below hb).2.1 | exact (HXs.out.only hb (by omega)).2.1
  have k_s : w.heap.size < u.heap.size := by have := HXs.out.1; omega
  clear hd h0 he ha hF; go_simp; exact fE HF rfl
 ·intro gh ρ u hc hf1 hg1 hd h0 hb he ha hF
  have f2 : ∃ (A3 : Option Addr) (c3 : Nat), (gh 2).v = .agg #[.int .i64 z1, .slice A3 m1 c3] ∧ (aT u (gh 2).s (gh 2).e (.slice A3 m1 c3, m1) (strs l1)) := fG HF (hF 2)
  obtain ⟨A3, c3, hv2, g2_0⟩ := f2; have hrt2 := hv2
  have r5 : ρ (.tmp 5) = .agg #[.int .i64 z1, .slice A3 m1 c3] := (hd 2 (by decide +kernel) 5 (by kernel_rfl)).trans hv2
  have f5 : ∃ (A4 : Option Addr) (c4 : Nat), (gh 5).v = .agg #[.int .i64 z2, .slice A4 m2 c4] ∧ (aT u (gh 5).s (gh 5).e (.slice A4 m2 c4, m2) (strs l2)) := fG HF (hF 5)
  obtain ⟨A4, c4, hv5, g5_0⟩ := f5; have hrt5 := hv5
  have r8 : ρ (.tmp 8) = .agg #[.int .i64 z2, .slice A4 m2 c4] := (hd 5 (by decide +kernel) 8 (by kernel_rfl)).trans hv5
  have r10 : ρ (.tmp 10) = .agg #[.int .i64 h.num, .int .i64 h.size, .string h.root, .int .i64 h.taken, .string h.troot] := (hd 7 (by decide +kernel) 10 (by kernel_rfl)).trans (fG HF (hF 7))
  have HRT2 := lH hrt2
  have HRT5 := lH hrt5
  clear hv2 hv5 hrt2 hrt5 hd h0 he ha hF; go_simp
  rw [HF.out]
  exact ⟨aX.refl _ _, A3, c3, HRT2.out, A4, c4, HRT5.out, rfl⟩
 ·intro gh ρ u hc hf1 hg1 hd h0 hb he ha hF
  first | (replace hb : Below w1.heap.size w1 u := hb.drew.below (by decide +kernel)) | (replace hb : Only (w.heap.size + 1) (w.heap.size + 1 + 1) w1 u := hb.drew.only)
  have hbz : w1.heap.size ≤ u.heap.size := hb.size
  have r2 : ρ (.tmp 2) = .pointer (some ⟨w.heap.size + 1, 0, none⟩) := (h0 2 (by decide +kernel)).trans rfl
  have f8 : ∃ (A3 : Option Addr) (c3 : Nat), (gh 2).v = .agg #[.int .i64 z1, .slice A3 m1 c3] ∧ ∃ (A4 : Option Addr) (c4 : Nat), (gh 5).v = .agg #[.int .i64 z2, .slice A4 m2 c4] ∧ (gh 8).v = .agg #[.int .i64 z1, .slice A3 m1 c3, .int .i64 z2, .slice A4 m2 c4, .int .i64 h.num, .int .i64 h.size, .string h.root, .int .i64 h.taken, .string h.troot] := fG HF (hF 8)
  obtain ⟨A3, c3, hrt2, A4, c4, hrt5, hv8⟩ := f8
  have r11 : ρ (.tmp 11) = .agg #[.int .i64 z1, .slice A3 m1 c3, .int .i64 z2, .slice A4 m2 c4, .int .i64 h.num, .int .i64 h.size, .string h.root, .int .i64 h.taken, .string h.troot] := (hd 8 (by decide +kernel) 11 (by kernel_rfl)).trans hv8
  have HRT2 := lH hrt2
  have HRT5 := lH hrt5
  obtain ⟨hzk, hzc, hzf⟩ := HXq.out.below hb
  clear hv8 hrt2 hrt5 hd h0 he ha hF; go_simp
  rw [HF.out]
  refine ⟨?_, A3, c3, HRT2.out, A4, c4, HRT5.out, ?_⟩
  ·refine aX.of_z (lo := w.heap.size + 1) (hi := w.heap.size + 1 + 1) ?_ rfl; (iterate 9 refine Only.setCell ?_ (by exact Nat.le_refl _) (by exact Nat.lt_succ_self _) _); exact Only.refl _ _ _
  show aa _ (w.heap.size + 1) _
  exact ⟨by simpa [World.setCell] using hzk, fun o => by rcases o with _ | _ | _ | _ | _ | _ | _ | _ | _ | o <;> go_simp, fun o => by go_simp⟩
 intro gh w2 hB hE hA hF
 replace hB : Only (w.heap.size + 1) (w.heap.size + 1 + 1) w1 w2 := hB.only
 have f0 : (gh 0).v = .pointer (some ⟨(w.heap.size), 0, none⟩) := fG HF (hF 0)
 have f1 : (gh 1).v = .agg #[.int .i64 z1, .slice A1 m1 c1] := fG HF (hF 1)
 have f2 : ∃ (A3 : Option Addr) (c3 : Nat), (gh 2).v = .agg #[.int .i64 z1, .slice A3 m1 c3] ∧ (aT w2 (gh 2).s (gh 2).e (.slice A3 m1 c3, m1) (strs l1)) := fG HF (hF 2)
 have f3 : (gh 3).v = .pointer (some ⟨(w.heap.size), 2, none⟩) := fG HF (hF 3)
 have f4 : (gh 4).v = .agg #[.int .i64 z2, .slice A2 m2 c2] := fG HF (hF 4)
 have f5 : ∃ (A4 : Option Addr) (c4 : Nat), (gh 5).v = .agg #[.int .i64 z2, .slice A4 m2 c4] ∧ (aT w2 (gh 5).s (gh 5).e (.slice A4 m2 c4, m2) (strs l2)) := fG HF (hF 5)
 have f6 : (gh 6).v = .pointer (some ⟨(w.heap.size), 4, none⟩) := fG HF (hF 6)
 have f7 : (gh 7).v = .agg #[.int .i64 h.num, .int .i64 h.size, .string h.root, .int .i64 h.taken, .string h.troot] := fG HF (hF 7)
 have f8 : ∃ (A3 : Option Addr) (c3 : Nat), (gh 2).v = .agg #[.int .i64 z1, .slice A3 m1 c3] ∧ ∃ (A4 : Option Addr) (c4 : Nat), (gh 5).v = .agg #[.int .i64 z2, .slice A4 m2 c4] ∧ (gh 8).v = .agg #[.int .i64 z1, .slice A3 m1 c3, .int .i64 z2, .slice A4 m2 c4, .int .i64 h.num, .int .i64 h.size, .string h.root, .int .i64 h.taken, .string h.troot] := fG HF (hF 8)
 have f9 : ∃ (A3 : Option Addr) (c3 : Nat), (gh 2).v = .agg #[.int .i64 z1, .slice A3 m1 c3] ∧ ∃ (A4 : Option Addr) (c4 : Nat), (gh 5).v = .agg #[.int .i64 z2, .slice A4 m2 c4] ∧ aa w2 (w.heap.size + 1) [.int .i64 z1, .slice A3 m1 c3, .int .i64 z2, .slice A4 m2 c4, .int .i64 h.num, .int .i64 h.size, .string h.root, .int .i64 h.taken, .string h.troot] := fG HF (hF 9)
 obtain ⟨A3, c3, hv2, hr3⟩ := f2
 obtain ⟨A4, c4, hv5, hr4⟩ := f5
 have hv0 := f0
 have hv1 := f1
 have hv3 := f3
 have hv4 := f4
 have hv6 := f6
 have hv7 := f7
 obtain ⟨A3_8, c3_8, hu2, A4_8, c4_8, hu5, hv8⟩ := f8
 replace hu2 := hv2.symm.trans hu2
 simp at hu2
 try simp only [and_assoc] at hu2
 obtain ⟨rfl, rfl⟩ := hu2
 replace hu5 := hv5.symm.trans hu5
 simp at hu5
 try simp only [and_assoc] at hu5
 obtain ⟨rfl, rfl⟩ := hu5
 obtain ⟨A3_9, c3_9, hu2, A4_9, c4_9, hu5, hx9⟩ := f9
 replace hu2 := hv2.symm.trans hu2
 simp at hu2
 try simp only [and_assoc] at hu2
 obtain ⟨rfl, rfl⟩ := hu2
 replace hu5 := hv5.symm.trans hu5
 simp at hu5
 try simp only [and_assoc] at hu5
 obtain ⟨rfl, rfl⟩ := hu5
 obtain ⟨hs2, hse2, he2⟩ := hE 2 (by decide +kernel)
 obtain ⟨hs5, hse5, he5⟩ := hE 5 (by decide +kernel)
 have hdj2_2_5 := hA 2 (by decide +kernel) 5 (by decide +kernel) (by decide)
 change w1.heap.size ≤ _ at hs2 hs5
 clear hE hA hF
 simp only [dY, Nat.reduceAdd, hv0, hv1, hv2, hv3, hv4, hv5, hv6, hv7, hv8]
 clear hv0 hv1 hv2 hv3 hv4 hv5 hv6 hv7 hv8
 generalize (gh 2).s = s2_2 at *
 generalize (gh 2).e = e2_2 at *
 generalize (gh 5).s = s2_5 at *
 generalize (gh 5).e = e2_5 at *
 clear HF
 have hb := hB
 clear hB
 have hzw2 : w1.heap.size ≤ w2.heap.size := hb.size
 replace HB := lH (au HB.out hb (by omega) HB.out.size)
 replace HOA := lH (HOA.out.only hb (by first | omega | (simp; omega)))
 replace HOB := lH (HOB.out.only hb (by first | omega | (simp; omega)))
 replace HXs := lH (HXs.out.only hb (by first | omega | (simp; omega)))
 clear hxs hfs hks
 obtain ⟨hks, hxs, hfs⟩ := HXs.out
 clear hxq hfq hkq HXq
 clear hb
 have HXq : Hid (aa w2 (w.heap.size + 1) [.int .i64 z1, .slice A3 m1 c3, .int .i64 z2, .slice A4 m2 c4, .int .i64 h.num, .int .i64 h.size, .string h.root, .int .i64 h.taken, .string h.troot]) := hx9
 obtain ⟨hkq, hxq, hfq⟩ := HXq.out
 clear hx9
 have HR3 := lH (aT.mono (lo' := w.heap.size) (hi' := e2_2) hr3 (by omega) (Nat.le_refl _))
 have HR4 := lH (aT.mono (lo' := w.heap.size) (hi' := e2_5) hr4 (by omega) (Nat.le_refl _))
 have HAP : Hid (Apart (.slice A3 m1 c3) (.slice A4 m2 c4)) := lH (fun k h1 h2 => by
  have a1 := (hr3.1.lt k h1).1
  have a2 := hr3.2 k h1
  have a3 := (hr4.1.lt k h2).1
  have a4 := hr4.2 k h2
  omega)
 clear hr3 hr4
 go_wp2
 refine bodyPost_ret (v := .agg #[.int .i64 z1, .slice A3 m1 c3, .int .i64 z2, .slice A4 m2 c4, .int .i64 h.num, .int .i64 h.size, .string h.root, .int .i64 h.taken, .string h.troot]) (by simp [results, Tryz.results135, go_sem, hxq]) rfl ?_
 exact ⟨A3, c3, A4, c4, rfl, HR3.out.1, HR4.out.1, HAP.out, HB.out⟩
set_option maxRecDepth 100000 in
theorem moreT_c (width : Int) (n1 n2 p base B0 c1 c2 : Nat) (A1 A2 : Option Addr) (l1 l2 : List ByteArray) (h : Hd) (X1 X2 : Option Addr) (g1 g2 k1 k2 : Nat) (L T : List ByteArray) (w : World) (hw : inR width 1 32 = true) (hl1 : l1.length = aO n1) (ha1 : bE width l1 = true) (hl2 : l2.length = aO n2) (ha2 : bE width l2 = true)
  (hk1 : L.length = k1) (hv1 : bE width L = true) (hk2 : T.length = k2) (hv2 : bE width T = true) (hn1 : n1 + k1 ≤ 512) (hn2 : n2 + k2 ≤ 512) (hbase : base ≤ w.heap.size) (hB1 : B0 ≤ p) (hB2 : B0 ≤ base) (hbp : base ≤ p) (hX1 : Rd w 0 B0 X1 (strs L)) (hX2 : Rd w 0 B0 X2 (strs T))
  (hR1 : cB w base p 0 n1 (.slice A1 (aO n1) c1) (aO n1) l1) (hR2 : cB w base p 2 n2 (.slice A2 (aO n2) c2) (aO n2) l2) (hap : Apart (.slice A1 (aO n1) c1) (.slice A2 (aO n2) c2))
  (hnum : 0 ≤ h.num ∧ h.num ≤ 399) (hc4 : w.cell? ⟨p, 4, none⟩ = some (.int .i64 h.num)) (hcs : ∀ j, 4 ≤ j → j < 9 → ∃ v, w.cell? ⟨p, j, none⟩ = some v) :
  Calls Tryz.prog 142 #[.pointer (some ⟨p, 0, none⟩), .int .i64 width, .slice X1 k1 g1, .slice X2 k2 g2] w fun e w' => ∃ A3 c3 A4 c4, e = .returned (.int .i64 ((aW n1 k1 + aW n2 k2 + aS (ax width n1 l1 L k1) + aS (ax width n2 l2 T k2) : Nat) : Int)) ∧
   cB w' base p 0 ((n1 + k1 : Nat) : Int) (.slice A3 (aO (n1 + k1)) c3) (aO (n1 + k1)) (ax width n1 l1 L k1) ∧ cB w' base p 2 ((n2 + k2 : Nat) : Int) (.slice A4 (aO (n2 + k2)) c4) (aO (n2 + k2)) (ax width n2 l2 T k2) ∧
   Apart (.slice A3 (aO (n1 + k1)) c3) (.slice A4 (aO (n2 + k2)) c4) ∧ w'.cell? ⟨p, 4, none⟩ = some (.int .i64 (h.num + 1)) ∧ w'.cell? ⟨p, 5, none⟩ = some (.int .i64 ((n1 + k1 : Nat) : Int)) ∧ w'.cell? ⟨p, 6, none⟩ = some (.string (aU width (ax width n1 l1 L k1))) ∧
   w'.cell? ⟨p, 7, none⟩ = some (.int .i64 ((n2 + k2 : Nat) : Int)) ∧ w'.cell? ⟨p, 8, none⟩ = some (.string (aU width (ax width n2 l2 T k2))) ∧ Only base w.heap.size w w' ∧ dI p w w' := by
 have hgl1 := bn (width := width) (leaves := L) hl1 hn1
 have hgl2 := bn (width := width) (leaves := T) hl2 hn2
 have hga1 := df hw hl1 ha1 hv1 hn1 (by omega)
 have hga2 := df hw hl2 ha2 hv2 hn2 (by omega)
 have hp1 : aO (n1 + k1) ≤ 10 := dM _ 10
 have hp2 : aO (n2 + k2) ≤ 10 := dM _ 10
 have hcu1 := eF n1 k1
 have hcu2 := eF n2 k2
 have HG1 := lH (growAll_c width n1 p 0 base c1 B0 A1 l1 X1 g1 k1 L w hw hl1 ha1 hk1 hv1 hn1 hbase hB1 hB2 hX1 hR1)
 have HG2 := lH (fun W e1 e2 e3 => growAll_c width n2 p 2 base c2 B0 A2 l2 X2 g2 k2 T W hw hl2 ha2 hk2 hv2 hn2 e1 hB1 hB2 e2 e3)
 have HT1 := lH (fun W A c (r : Rd W 0 W.heap.size A (strs (ax width n1 l1 L k1))) => root_c width ((n1 + k1 : Nat) : Int) A c 0 W.heap.size _ _ W r hgl1 (by omega) hw hga1)
 have HT2 := lH (fun W A c (r : Rd W 0 W.heap.size A (strs (ax width n2 l2 T k2))) => root_c width ((n2 + k2 : Nat) : Int) A c 0 W.heap.size _ _ W r hgl2 (by omega) hw hga2)
 have hrm1 : aS (ax width n1 l1 L k1) ≤ 20 := by rw [aS]; omega
 have hrm2 : aS (ax width n2 l2 T k2) ≤ 20 := by rw [aS]; omega
 have HR1 := lH hR1
 have HR2 := lH hR2
 have HAP := lH hap
 have HX2 := lH hX2
 have HCS := lH hcs
 clear hcs
 clear hl1 ha1 hl2 ha2 hk1 hv1 hk2 hv2 hX1 hX2 hR1 hR2 hap hgl1 hgl2 hga1 hga2
 generalize ax width n1 l1 L k1 = q1 at *
 generalize ax width n2 l2 T k2 = q2 at *
 generalize aU width q1 = r1 at *
 generalize aU width q2 = r2 at *
 generalize aS q1 = d1 at *
 generalize aS q2 = d2 at *
 generalize aW n1 k1 = u1 at *
 generalize aW n2 k2 = u2 at *
 obtain ⟨s1, hs1⟩ : ∃ s1, s1 = n1 + k1 := ⟨_, rfl⟩
 obtain ⟨s2, hs2⟩ : ∃ s2, s2 = n2 + k2 := ⟨_, rfl⟩
 rw [← hs1] at HG1 HT1 hp1 hn1 ⊢
 rw [← hs2] at HG2 HT2 hp2 hn2 ⊢
 generalize aO s1 = m1 at *
 generalize aO s2 = m2 at *
 have hu1 : (u1 : Int) ≤ 5120 := by omega
 have hu2 : (u2 : Int) ≤ 5120 := by omega
 have hd1 : (d1 : Int) ≤ 20 := by omega
 have hd2 : (d2 : Int) ≤ 20 := by omega
 clear hs1 hs2 hcu1 hcu2 hrm1 hrm2 hw
 go_enter Tryz.func142, Tryz.ntmps142
 go_wp2_with fail
 refine HG1.out.mono ?_
 rintro e w1 ⟨A3, c3, rfl, hR1, hG⟩
 have HR1a := lH hR1
 have HR2a := lH (HR2.out.keepG hG hR1.typed HAP.out.symm (by omega))
 have HAPa := lH (HAP.out.symm.next hG HR2.out.row)
 have HX2a := lH (HX2.out.lowB (hG.toBelow HR1.out.row hB1 hB2 (by omega)) (Nat.le_refl _))
 have HO1 := lH (hG.only HR1.out.row hbp)
 have HT1a := lH (dI.grow hG HR1.out.row)
 have HCSa := lH (fun j h1 h2 => (HCS.out j h1 h2).imp fun v hv => (hG.cell j (by omega) (by omega)).trans hv)
 have hc4a := (hG.cell 4 (by omega) (by omega)).trans hc4
 have hz1 : base ≤ w1.heap.size := Nat.le_trans hbase hG.size
 have hzz1 := hG.size
 clear hR1 hG hc4 HR2 HAP HX2 HG1 HR1
 go_wp2_with fail
 refine (HG2.out _ hz1 HX2a.out HR2a.out).mono ?_
 rintro e w2 ⟨A4, c4, rfl, hR2, hG⟩
 have HR2b := lH hR2
 have HR1b := lH (HR1a.out.keepG hG hR2.typed HAPa.out.symm (by omega))
 have HAPb := lH (HAPa.out.symm.next hG HR1a.out.row)
 have HO2 := lH (gJ HO1.out (hG.only HR2a.out.row hbp))
 have HT2a := lH (HT1a.out.trans (dI.grow hG HR2a.out.row))
 have HCSb := lH (fun j h1 h2 => (HCSa.out j h1 h2).imp fun v hv => (hG.cell j (by omega) (by omega)).trans hv)
 have hc4b := (hG.cell 4 (by omega) (by omega)).trans hc4a
 have hz2 : base ≤ w2.heap.size := Nat.le_trans hz1 hG.size
 have hzz2 : w.heap.size ≤ w2.heap.size := Nat.le_trans hzz1 hG.size
 have e0 : w2.cell? ⟨p, 0, none⟩ = some (.int .i64 (s1 : Nat)) := HR1b.out.c0
 have e1 : w2.cell? ⟨p, 1, none⟩ = some (.slice A3 m1 c3) := HR1b.out.c1
 clear hR2 hG hc4a HR1a HR2a HAPa HX2a HO1 HG2
 go_wp2_with fail
 refine (HT1.out _ _ _ (Own.bg HR1b.out.row).rd.base).mono ?_
 rintro e w3 ⟨rfl, hb3⟩
 have HR1c := lH (HR1b.out.below hb3)
 have HR2c := lH (HR2b.out.below hb3)
 have HO3 := lH (gJ HO2.out (Only.of_below hb3))
 have HT3a := lH (HT2a.out.trans (dI.below hb3))
 have hpl : p < w2.heap.size := HR1b.out.typed.lt
 have HCSc := lH (fun j h1 h2 => (HCSb.out j h1 h2).imp fun v hv => (hb3.cell (p := ⟨p, j, none⟩) hpl).trans hv)
 have hc4c := (hb3.cell (p := ⟨p, 4, none⟩) hpl).trans hc4b
 have f2 : w3.cell? ⟨p, 2, none⟩ = some (.int .i64 (s2 : Nat)) := HR2c.out.c0
 have f3 : w3.cell? ⟨p, 3, none⟩ = some (.slice A4 m2 c4) := HR2c.out.c1
 have hzz3 : w.heap.size ≤ w3.heap.size := Nat.le_trans hzz2 hb3.size
 clear hb3 e0 e1 hc4b HO2 HR1b HR2b HT1
 go_wp2_with fail
 refine (HT2.out _ _ _ (Own.bg HR2c.out.row).rd.base).mono ?_
 rintro e w4 ⟨rfl, hb4⟩
 have HR1d := lH (HR1c.out.below hb4)
 have HR2d := lH (HR2c.out.below hb4)
 have HO4 := lH (gJ HO3.out (Only.of_below hb4))
 have HT4a := lH (HT3a.out.trans (dI.below hb4))
 have hpl3 : p < w3.heap.size := HR1c.out.typed.lt
 have HCSd := lH (fun j h1 h2 => (HCSc.out j h1 h2).imp fun v hv => (hb4.cell (p := ⟨p, j, none⟩) hpl3).trans hv)
 have i4 := (hb4.cell (p := ⟨p, 4, none⟩) hpl3).trans hc4c
 have i0 : w4.cell? ⟨p, 0, none⟩ = some (.int .i64 (s1 : Nat)) := HR1d.out.c0
 have i2 : w4.cell? ⟨p, 2, none⟩ = some (.int .i64 (s2 : Nat)) := HR2d.out.c0
 have hfz := HR1d.out.typed.frozen
 have hzz4 : w.heap.size ≤ w4.heap.size := Nat.le_trans hzz3 hb4.size
 have hpl4 : p < w4.heap.size := HR1d.out.typed.lt
 have N1 : IntKind.i64.wrap (h.num + 1) = h.num + 1 := by rw [IntKind.wrap_i64]; omega
 clear hb4 f2 f3 hc4c HO3 HR1c HR2c HT2
 go_wp2_with fail
 go_still_tail 22, (by kernel_rfl)
 change wpList _ _ _ _ _ w4.drew
 have hbD : Below w4.heap.size w4 w4.drew := (Below.refl _ _).drew
 have HR1e := lH (HR1d.out.below hbD)
 have HR2e := lH (HR2d.out.below hbD)
 have HO5 := lH (gJ HO4.out (Only.of_below hbD))
 have HT5a := lH (HT4a.out.trans (dI.below hbD))
 have HCSe : Hid (∀ j, 4 ≤ j → j < 9 → ∃ v, w4.drew.cell? ⟨p, j, none⟩ = some v) := lH HCSd.out
 have hpl5 : p < w4.drew.heap.size := hpl4
 have hf5 : ∀ o, w4.drew.frozen? ⟨p, o, none⟩ = false := hfz
 clear hbD HR1d HR2d HO4 HCSd HCSc HCSb HCSa HCS i0 i2 i4 hfz
 generalize w4.drew = w5 at *
 obtain ⟨v4, j4⟩ := HCSe.out 4 (by omega) (by omega)
 obtain ⟨v5, j5⟩ := HCSe.out 5 (by omega) (by omega)
 obtain ⟨v6, j6⟩ := HCSe.out 6 (by omega) (by omega)
 obtain ⟨v7, j7⟩ := HCSe.out 7 (by omega) (by omega)
 obtain ⟨v8, j8⟩ := HCSe.out 8 (by omega) (by omega)
 go_wp2
 refine ai (fun w9 hw => ?_)
 have HFIN : Hid (cB w9 base p 0 s1 (.slice A3 m1 c3) m1 q1 ∧ cB w9 base p 2 s2 (.slice A4 m2 c4) m2 q2 ∧ (w9.cell? ⟨p, 4, none⟩ = some (.int .i64 (h.num + 1)) ∧ w9.cell? ⟨p, 5, none⟩ = some (.int .i64 (s1 : Nat)) ∧ w9.cell? ⟨p, 6, none⟩ = some (.string r1) ∧
   w9.cell? ⟨p, 7, none⟩ = some (.int .i64 (s2 : Nat)) ∧ w9.cell? ⟨p, 8, none⟩ = some (.string r2)) ∧ Only base w.heap.size w w9 ∧ dI p w w9) := by
  rw [Hid, hw]
  refine ⟨((((HR1e.out.setO (j := 4) (by omega) _).setO (j := 5) (by omega) _).setO (j := 6) (by omega) _).setO (j := 7) (by omega) _).setO (j := 8) (by omega) _,
   ((((HR2e.out.setO (j := 4) (by omega) _).setO (j := 5) (by omega) _).setO (j := 6) (by omega) _).setO (j := 7) (by omega) _).setO (j := 8) (by omega) _, head_set _ _ _ _ _ HCSe.out, gJ HO5.out ?_, ((((HT5a.out.set _ _).set _ _).set _ _).set _ _).set _ _⟩
  exact (((((Only.refl _ _ _).setCell (by exact hbp) (by exact hpl5) _).setCell (by exact hbp) (by exact hpl5) _).setCell (by exact hbp) (by exact hpl5) _).setCell (by exact hbp) (by exact hpl5) _).setCell (by exact hbp) (by exact hpl5) _
 clear hw
 refine bodyPost_ret (v := .int .i64 ((u1 + u2 + d1 + d2 : Nat) : Int)) (by simp [results, Tryz.results142, go_sem]) rfl ?_
 obtain ⟨k1', k2', ⟨k3', k4', k5', k6', k7'⟩, k8'⟩ := HFIN.out
 exact ⟨A3, c3, A4, c4, rfl, k1', k2', HAPb.out, k3', k4', k5', k6', k7', k8'⟩
end
end Go.Proofs.YtoccjgcokffkbaaGreat
