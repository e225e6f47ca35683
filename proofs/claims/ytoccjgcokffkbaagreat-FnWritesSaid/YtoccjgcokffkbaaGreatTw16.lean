/- Part 16 of the proof of FnWrites: lemmas and contracts. -/
import Derived.Test.YtoccjgcokffkbaaGreatTw15
import Derived.Deep.RegionLaw
import Derived.Test.YtoccjgcokffkbaaGreatTw14
namespace Go.Proofs.YtoccjgcokffkbaaGreat
set_option linter.unusedVariables false
set_option linter.unusedSimpArgs false
set_option maxHeartbeats 20000000
set_option maxRecDepth 100000
section
open Go.RowKit
def bg (l : List Ent) (t : ByteArray) (ti : Int) (k b : ByteArray) : Ent := ⟨t, (cnt l t : Nat), ti, k, b⟩
def bL (l : List Ent) (t : ByteArray) (ti : Int) (k b : ByteArray) : Int := if bW t then (if dK ti k b then (if decide (512 ≤ l.length) then 4 else 0) else 3) else 2
def addL (l : List Ent) (t : ByteArray) (ti : Int) (k b : ByteArray) : List Ent := if bL l t ti k b = 0 then l ++ [bg l t ti k b] else []
def addLeaf (l : List Ent) (t : ByteArray) (ti : Int) (k b : ByteArray) : Int := if bL l t ti k b = 0 then (l.length : Nat) else 0
theorem fO {l : List Ent} {t : ByteArray} {ti : Int} {k b : ByteArray} {c : Int} (h : bL l t ti k b = c) (hc : c ≠ 0) : addL l t ti k b = [] ∧ addLeaf l t ti k b = 0 := by
 rw [addL, addLeaf, h, if_neg hc, if_neg hc]; exact ⟨rfl, rfl⟩
theorem addL_yes {l : List Ent} {t : ByteArray} {ti : Int} {k b : ByteArray} (h : bL l t ti k b = 0) : addL l t ti k b = l ++ [bg l t ti k b] ∧ addLeaf l t ti k b = (l.length : Nat) := by
 rw [addL, addLeaf, h, if_pos rfl, if_pos rfl]; exact ⟨rfl, rfl⟩
theorem entryOk_0 {t k b : ByteArray} {ti : Int} (h : bW t = true) : aY ⟨t, 0, ti, k, b⟩ = dK ti k b := by
 rw [aY, h]; rfl
theorem ent_fits {t k b : ByteArray} {i ti : Int} (h1 : t.size ≤ 1048576) (hi : I64 i) (hti : I64 ti) (h2 : k.size ≤ 1048576) (h3 : b.size ≤ 1048576) : Ent.fits ⟨t, i, ti, k, b⟩ :=
 ⟨hi, hti, Nat.le_trans h1 (by unfold maxLen; omega), Nat.le_trans h2 (by unfold maxLen; omega), Nat.le_trans h3 (by unfold maxLen; omega)⟩
theorem grown_below {w w' : World} (h : Below w.heap.size w w') : w.grownBy w' none := ⟨h.os, h.tape, h.output, h.size, fun k hk _ => h.block k hk⟩
theorem ents_app (a b : List Ent) : aQ (a ++ b) = aQ a ++ aQ b := by rw [aQ, List.flatMap_append]; rfl
theorem l09Add_c (A : Option Addr) (c lo hi n : Nat) (l : List Ent) (t : ByteArray) (ti : Int) (k b : ByteArray) (w : World) (hr : Rd w lo hi A (aQ l)) (hn : l.length = n) (hl : n ≤ 512) (hA : A = none → c = 0)
  (ht : t.size ≤ 1048576) (hti : I64 ti) (hk : k.size ≤ 1048576) (hb : b.size ≤ 1048576) :
  Calls Tryz.prog 107 #[.agg #[.slice A n c], .string t, .int .i64 ti, .string k, .string b] w fun e w' => ∃ (A' : Option Addr) (c' : Nat), e = .returned (.tuple #[.agg #[.slice A' (addL l t ti k b).length c'], .int .i64 (addLeaf l t ti k b), .int .i64 (bL l t ti k b)]) ∧
   ((A' = none → c' = 0) ∧ (addL l t ti k b).length ≤ c') ∧ Own w' w.heap.size w'.heap.size A' (aQ (addL l t ti k b)) ∧ Below w.heap.size w w' := by
 have HN := lH hn
 have HI := lH hti
 clear hn hti
 go_enter Tryz.func107, Tryz.ntmps107
 have HB : Hid (Below w.heap.size w w) := Below.refl _ _
 have HOA : Hid (Rd w (0) (w.heap.size) (A) (aQ l)) := Rd.base hr
 clear hr
 go_wp2_with fail
 refine af (fun w1 hw => ?_)
 have hz1 : w.heap.size + 2 ≤ w1.heap.size := zA
 have hbn : Below w.heap.size w w1 := zB
 replace HB := bT HB hbn
 replace HOA := lH (HOA.out.below hbn)
 clear hbn
 have HXl0 : Hid (aa w1 (w.heap.size) [.slice A n c]) := zG1
 obtain ⟨hkl0, hxl0, hfl0⟩ := HXl0.out
 have HXr0 : Hid (aa w1 (w.heap.size + 1) [.slice none 0 0]) := zG1
 obtain ⟨hkr0, hxr0, hfr0⟩ := HXr0.out
 clear hw
 refine (specNameOk_c t _ (by unfold maxLen; omega)).mono ?_
 rintro e w2_ ⟨rfl, rfl⟩
 rcases h1 : bW t with _ | _
 ·have hc : Hid (bL l t ti k b = 2) := by rw [Hid, bL, h1]; rfl
  clear h1; go_wp2
  refine bodyPost_ret (v := .tuple #[.agg #[.slice none 0 0], .int .i64 0, .int .i64 2]) (by simp [results, Tryz.results107, go_sem, World.cell?_setCell_same _ _ _ (HXr0.out.cell (o := 0) rfl)]) rfl ?_
  exact ⟨none, 0, by rw [hc.out, (fO hc.out (by decide)).1, (fO hc.out (by decide)).2]; rfl, ⟨fun _ => rfl, by rw [(fO hc.out (by decide)).1]; exact Nat.zero_le _⟩, by rw [(fO hc.out (by decide)).1]; exact Own.nil, (by ((repeat first | with_reducible apply bA | with_reducible apply bD | (with_reducible refine bS ?_ ?_; (focus (first | omega | simp <;> omega)))); exact HB.out))⟩
 have H1 := lH h1
 have hE := lH (entryOk_0 (k := k) (b := b) (ti := ti) h1)
 clear h1
 go_wp2_with fail
 refine af (fun w3 hw => ?_)
 have hz3 : w1.heap.size + 0 ≤ w3.heap.size := zA
 have hbn : Below w1.heap.size w1 w3 := zB
 replace HB := bT HB hbn
 replace HOA := lH (HOA.out.below hbn)
 replace HXl0 := nB HXl0 hbn
 clear hxl0 hfl0 hkl0
 obtain ⟨hkl0, hxl0, hfl0⟩ := HXl0.out
 replace HXr0 := nB HXr0 hbn
 clear hxr0 hfr0 hkr0
 obtain ⟨hkr0, hxr0, hfr0⟩ := HXr0.out
 clear hbn
 clear hw
 refine (specEntryOk_c ⟨t, 0, ti, k, b⟩ _ (ent_fits ht ⟨by decide, by decide⟩ HI.out hk hb)).mono ?_
 rintro e w4 ⟨rfl, hb⟩
 have hzw4 : w3.heap.size ≤ w4.heap.size := hb.size
 replace HB := bT HB hb
 replace HOA := lH (HOA.out.below hb)
 replace HXl0 := nB HXl0 hb
 clear hxl0 hfl0 hkl0
 obtain ⟨hkl0, hxl0, hfl0⟩ := HXl0.out
 replace HXr0 := nB HXr0 hb
 clear hxr0 hfr0 hkr0
 obtain ⟨hkr0, hxr0, hfr0⟩ := HXr0.out
 clear hb
 rw [hE.out]
 rcases h2 : dK ti k b with _ | _
 ·have hc : Hid (bL l t ti k b = 3) := by rw [Hid, bL, H1.out, h2]; rfl
  clear h2; go_wp2
  refine bodyPost_ret (v := .tuple #[.agg #[.slice none 0 0], .int .i64 0, .int .i64 3]) (by simp [results, Tryz.results107, go_sem, World.cell?_setCell_same _ _ _ (HXr0.out.cell (o := 0) rfl)]) rfl ?_
  exact ⟨none, 0, by rw [hc.out, (fO hc.out (by decide)).1, (fO hc.out (by decide)).2]; rfl, ⟨fun _ => rfl, by rw [(fO hc.out (by decide)).1]; exact Nat.zero_le _⟩, by rw [(fO hc.out (by decide)).1]; exact Own.nil, (by ((repeat first | with_reducible apply bA | with_reducible apply bD | (with_reducible refine bS ?_ ?_; (focus (first | omega | simp <;> omega)))); exact HB.out))⟩
 have H2 := lH h2
 clear h2
 rcases (show n = 512 ∨ n < 512 by omega) with h3 | h3
 ·have hc : Hid (bL l t ti k b = 4) := by rw [Hid, bL, H1.out, H2.out, HN.out, h3]; rfl
  subst h3; go_wp2
  refine bodyPost_ret (v := .tuple #[.agg #[.slice none 0 0], .int .i64 0, .int .i64 4]) (by simp [results, Tryz.results107, go_sem, World.cell?_setCell_same _ _ _ (HXr0.out.cell (o := 0) rfl)]) rfl ?_
  exact ⟨none, 0, by rw [hc.out, (fO hc.out (by decide)).1, (fO hc.out (by decide)).2]; rfl, ⟨fun _ => rfl, by rw [(fO hc.out (by decide)).1]; exact Nat.zero_le _⟩, by rw [(fO hc.out (by decide)).1]; exact Own.nil, (by ((repeat first | with_reducible apply bA | with_reducible apply bD | (with_reducible refine bS ?_ ?_; (focus (first | omega | simp <;> omega)))); exact HB.out))⟩
 have hc : Hid (bL l t ti k b = 0) := by rw [Hid, bL, H1.out, H2.out, HN.out]; simp; omega
 have hq : ((n : Int) == 512) = false := by rw [beq_eq_false_iff_ne]; omega
 go_wp2_with fail
 refine (l09Count_c A c _ _ n l t _ HOA.out HN.out (by omega)).mono ?_
 rintro e w5_ ⟨rfl, rfl⟩
 go_wp2_with fail
 refine aC (fun w6 hw => ?_)
 have hz6 : w4.heap.size + 1 ≤ w6.heap.size := zA
 have hbn : Below w4.heap.size w4 w6 := zB
 replace HB := bT HB hbn
 replace HOA := lH (HOA.out.below hbn)
 replace HXl0 := nB HXl0 hbn
 clear hxl0 hfl0 hkl0
 obtain ⟨hkl0, hxl0, hfl0⟩ := HXl0.out
 replace HXr0 := nB HXr0 hbn
 clear hxr0 hfr0 hkr0
 obtain ⟨hkr0, hxr0, hfr0⟩ := HXr0.out
 clear hbn
 have HXe : Hid (aa w6 (w4.heap.size) [.string t, .int .i64 (cnt l t : Nat), .int .i64 ti, .string k, .string b]) := zG5
 obtain ⟨hke, hxe, hfe⟩ := HXe.out
 clear hw
 obtain ⟨F, HF⟩ : ∃ F : Facts, Hid (F = fun iq xq tqs dsq uq => match iq with
  | 0 => xq.v = .slice (some ⟨xq.s, 0, none⟩) 0 0 ∧ bM (inG xq []) uq 41 5 (.slice (some ⟨xq.s, 0, none⟩) 0 0) 0 []
  | 1 => xq.v = .pointer (some ⟨(w.heap.size), 0, none⟩)
  | 2 => xq.v = .slice A n c
  | 3 => (match tqs, dsq with | [tq0], [] => ∃ (A3 : Option Addr) (c3 : Nat), xq.v = .slice A3 n c3 ∧ bM (inG xq [tq0]) uq 41 5 (.slice A3 n c3) (n) (aQ l) | _, _ => False)
  | 4 => xq.v = .agg #[.string t, .int .i64 (cnt l t : Nat), .int .i64 ti, .string k, .string b]
  | 5 => xq.v = .slice (some ⟨xq.s, 0, none⟩) 1 1 ∧ xq.s < xq.e ∧ aa uq xq.s (aQ [(bg l t ti k b)])
  | 6 => (match tqs, dsq with | [tq0, tq1], [] => ∃ (A4 : Option Addr) (c4 : Nat), xq.v = .slice A4 (n + 1) c4 ∧ bM (inG xq [tq0, tq1]) uq 41 5 (.slice A4 (n + 1) c4) ((n + 1)) ((aQ l ++ aQ [bg l t ti k b])) | _, _ => False)
  | 7 => (match tqs, dsq with | [], [yq0] => ∃ (A4 : Option Addr) (c4 : Nat), yq0.v = .slice A4 (n + 1) c4 ∧ xq.v = .agg #[.slice A4 (n + 1) c4] | _, _ => False)
  | 8 => xq.v = .pointer (some ⟨(w.heap.size), 0, none⟩)
  | 9 => xq.v = .slice A n c
  | 10 => xq.v = .int .i64 (n : Nat)
  | 11 => (match tqs, dsq with | [], [yq0] => ∃ (A4 : Option Addr) (c4 : Nat), yq0.v = .slice A4 (n + 1) c4 ∧ aa uq (w.heap.size + 1) [.slice A4 (n + 1) c4] | _, _ => False)
  | 12 => xq.v = .int .i64 (n : Nat)
  | 13 => xq.v = .int .i64 0
  | _ => False) := ⟨_, rfl⟩
 refine aX [[], [], [], [], [], [], [], [6], [], [], [], [6], [], []] [[], [], [], [0], [], [], [3, 0], [], [], [], [], [], [], []] [some 40, some 41, some 42, some 43, some 44, some 45, some 46, some 47, some 48, some 49, some 50, none, some 11, some 12] (some 11) (w.heap.size + 1) (w.heap.size + 1 + 1) (.inr (by omega)) F (by kernel_rfl) (by kernel_rfl) (by kernel_rfl) ?_ ⟨?_, ?_, ?_, ?_, ?_, ?_, ?_, ?_, ?_, ?_, ?_, ?_, ?_, ?_, trivial⟩ ?_
 ·rw [HF.out]; intro iq xq tqs dsq uq u' hi hf hs hW hx hbk
  have kx : ∀ b, xq.s ≤ b → b < xq.e → u'.heap[b]? = uq.heap[b]? := fun b h1 h2 => hbk b (.inr (.inl ⟨h1, h2⟩))
  have kt : ∀ t ∈ tqs, ∀ b, t.s ≤ b → b < t.e → u'.heap[b]? = uq.heap[b]? := fun t ht b h1 h2 => hbk b (.inr (.inr ⟨t, ht, h1, h2⟩))
  match iq with
  | 0 => exact ⟨hf.1, hf.2.keep (fun k hk => hk.elim (fun h => kx k h.1 h.2) (fun ⟨t, ht, _⟩ => by cases ht))⟩
  | 1 | 2 => exact hf
  | 3 => match tqs, dsq, hf with | [tq0], [], hf => obtain ⟨A3, c3, hv, p0⟩ := hf; exact ⟨A3, c3, hv, p0.keep (fun k hk => hk.elim (fun h => kx k h.1 h.2) (fun ⟨t, ht, h⟩ => kt t ht k h.1 h.2))⟩
  | 4 => exact hf
  | 5 => obtain ⟨h1, h2, hb⟩ := hf; exact ⟨h1, h2, hb.keep hs (kx _ (Nat.le_refl _) h2)⟩
  | 6 => match tqs, dsq, hf with | [tq0, tq1], [], hf => obtain ⟨A4, c4, hv, p0⟩ := hf; exact ⟨A4, c4, hv, p0.keep (fun k hk => hk.elim (fun h => kx k h.1 h.2) (fun ⟨t, ht, h⟩ => kt t ht k h.1 h.2))⟩
  | 7 | 8 => exact hf
  | 9 | 10 => exact hf
  | 11 => match tqs, dsq, hf with | [], [yq0], hf => obtain ⟨A4, c4, hvr6, hb⟩ := hf; exact ⟨A4, c4, hvr6, hb.keep hs (hbk _ (.inl ⟨hkr0, .inr (.inr rfl)⟩))⟩
  | 12 | 13 => exact hf
 ·intro gh ρ u _ _ _ hd h0 hb he ha hF
  first | replace hb := hb.drew.below (by decide +kernel) | replace hb := hb.drew.only
  have hbz : w6.heap.size ≤ u.heap.size := hb.size
  clear hd h0 he ha hF; go_simp
  rw [HF.out]
  exact ⟨aS.of_below ((Below.refl _ _).alloc (Nat.le_refl _) _), rfl, bM.made _ _ _ _ (.inl ⟨Nat.le_refl _, by simp⟩)⟩
 ·intro gh ρ u _ _ _ hd h0 hb he ha hF
  have r5 : ρ (.tmp 5) = .pointer (some ⟨w.heap.size, 0, none⟩) := (h0 5 (by decide +kernel)).trans rfl
  clear hd h0 he ha hF; go_simp; exact fE HF rfl
 ·intro gh ρ u _ _ _ hd h0 hb he ha hF
  first | replace hb := hb.drew.below (by decide +kernel) | replace hb := hb.drew.only
  have hbz : w6.heap.size ≤ u.heap.size := hb.size
  have r41 : ρ (.tmp 41) = .pointer (some ⟨(w.heap.size), 0, none⟩) := fH (hd 1) 41 (fG HF (hF 1))
  first | have q_l0 := (HXl0.out.below hb).2.1 | have q_l0 := (HXl0.out.only hb (by omega)).2.1
  have k_l0 : w.heap.size < u.heap.size := by have := HXl0.out.1; omega
  first | have q_e := (HXe.out.below hb).2.1 | have q_e := (HXe.out.only hb (by omega)).2.1
  have k_e : w4.heap.size < u.heap.size := by have := HXe.out.1; omega
  clear hd h0 he ha hF; go_simp; exact fE HF rfl
 ·intro gh ρ u _ _ _ hd h0 hb he ha hF
  first | replace hb := hb.drew.below (by decide +kernel) | replace hb := hb.drew.only
  have hbz : w6.heap.size ≤ u.heap.size := hb.size
  have f0 : (gh 0).v = .slice (some ⟨(gh 0).s, 0, none⟩) 0 0 ∧ bM (inG (gh 0) []) u 41 5 (.slice (some ⟨(gh 0).s, 0, none⟩) 0 0) 0 [] := fG HF (hF 0)
  obtain ⟨hv0, hrow0⟩ := f0
  have r40 : ρ (.tmp 40) = .slice (some ⟨(gh 0).s, 0, none⟩) 0 0 := (hd 0 (by decide +kernel) 40 (by kernel_rfl)).trans hv0
  have r42 : ρ (.tmp 42) = .slice A n c := fH (hd 2) 42 (fG HF (hF 2))
  clear hv0 hd h0 he ha hF
  refine gappEnt _ _ rfl _ (0) ([]) r40 hrow0 A n c _ _ l r42 HN.out (HOA.out.below hb) hA (by omega) ?_
  intro A' c' u' hrow hlt hg
  rw [HF.out]
  have hS : ∀ k, inG (gh 0) [] k → ∃ z ∈ ([0] : List Nat), (gh z).s ≤ k ∧ k < (gh z).e := by
   rintro k (h | ⟨t, ht, h⟩)
   ·exact ⟨0, by decide, h⟩
   cases ht
  refine ⟨⟨hg.os, hg.tape, hg.output, hg.size, fun k hk hd' _ => hg.block k hk (fun e => ?_)⟩, A', c', by rw [Nat.zero_add], ?_⟩
  ·obtain ⟨z, hz, h1, h2⟩ := hS k (hrow0.at_ k e.symm); have := hd' (gh z) (List.mem_map.2 ⟨z, hz, rfl⟩); omega
  rw [Nat.zero_add, List.nil_append] at hrow; rw [Nat.zero_add] at hlt; exact bM.widen hrow (fun k hk => .inr (let ⟨z, hz, h⟩ := hS k hk; ⟨gh z, List.mem_map.2 ⟨z, hz, rfl⟩, h⟩)) (fun e => .inl ⟨Nat.le_refl _, hlt _ e⟩)
 ·intro gh ρ u _ _ _ hd h0 hb he ha hF
  first | replace hb := hb.drew.below (by decide +kernel) | replace hb := hb.drew.only
  have hbz : w6.heap.size ≤ u.heap.size := hb.size
  have r13 : ρ (.tmp 13) = .pointer (some ⟨w4.heap.size, 0, none⟩) := (h0 13 (by decide +kernel)).trans rfl
  first | have q_l0 := (HXl0.out.below hb).2.1 | have q_l0 := (HXl0.out.only hb (by omega)).2.1
  have k_l0 : w.heap.size < u.heap.size := by have := HXl0.out.1; omega
  first | have q_e := (HXe.out.below hb).2.1 | have q_e := (HXe.out.only hb (by omega)).2.1
  have k_e : w4.heap.size < u.heap.size := by have := HXe.out.1; omega
  clear hd h0 he ha hF; go_simp; exact fE HF rfl
 ·intro gh ρ u _ _ _ hd h0 hb he ha hF
  first | replace hb := hb.drew.below (by decide +kernel) | replace hb := hb.drew.only
  have hbz : w6.heap.size ≤ u.heap.size := hb.size
  have r44 : ρ (.tmp 44) = .agg #[.string t, .int .i64 (cnt l t : Nat), .int .i64 ti, .string k, .string b] := fH (hd 4) 44 (fG HF (hF 4))
  clear hd h0 he ha hF; go_simp
  rw [HF.out]
  exact ⟨aS.of_below ((Below.refl _ _).alloc (Nat.le_refl _) _), rfl, by simp, aa.new _ _ _⟩
 ·intro gh ρ u _ _ _ hd h0 hb he ha hF
  first | replace hb := hb.drew.below (by decide +kernel) | replace hb := hb.drew.only
  have hbz : w6.heap.size ≤ u.heap.size := hb.size
  have f3 : ∃ (A3 : Option Addr) (c3 : Nat), (gh 3).v = .slice A3 n c3 ∧ bM (inG (gh 3) [(gh 0)]) u 41 5 (.slice A3 n c3) (n) (aQ l) := fG HF (hF 3)
  obtain ⟨A3, c3, hv3, hrow3⟩ := f3
  have r43 : ρ (.tmp 43) = .slice A3 n c3 := (hd 3 (by decide +kernel) 43 (by kernel_rfl)).trans hv3
  have f5 : (gh 5).v = .slice (some ⟨(gh 5).s, 0, none⟩) 1 1 ∧ (gh 5).s < (gh 5).e ∧ aa u (gh 5).s (aQ [(bg l t ti k b)]) := fG HF (hF 5)
  obtain ⟨hv5, hlt5, hnb5⟩ := f5
  have r45 : ρ (.tmp 45) = .slice (some ⟨(gh 5).s, 0, none⟩) 1 1 := (hd 5 (by decide +kernel) 45 (by kernel_rfl)).trans hv5
  clear hv3 hv5 hd h0 he ha hF
  refine gapp1Ent _ _ rfl _ (n) (aQ l) r43 hrow3 _ (bg l t ti k b) r45 hnb5 (by omega) ?_
  intro A' c' u' hrow hlt hg
  rw [HF.out]
  have hS : ∀ k, inG (gh 3) [gh 0] k → ∃ z ∈ ([3, 0] : List Nat), (gh z).s ≤ k ∧ k < (gh z).e := by
   rintro k (h | ⟨t, ht, h⟩)
   ·exact ⟨3, by decide, h⟩
   simp only [List.mem_cons, List.not_mem_nil, or_false] at ht
   rcases ht with rfl
   exact ⟨0, by decide, h⟩
  refine ⟨⟨hg.os, hg.tape, hg.output, hg.size, fun k hk hd' _ => hg.block k hk (fun e => ?_)⟩, A', c', rfl, ?_⟩
  ·obtain ⟨z, hz, h1, h2⟩ := hS k (hrow3.at_ k e.symm); have := hd' (gh z) (List.mem_map.2 ⟨z, hz, rfl⟩); omega
  exact bM.widen hrow (fun k hk => .inr (let ⟨z, hz, h⟩ := hS k hk; ⟨gh z, List.mem_map.2 ⟨z, hz, rfl⟩, h⟩)) (fun e => .inl ⟨Nat.le_refl _, hlt _ e⟩)
 ·intro gh ρ u _ _ _ hd h0 hb he ha hF
  have f6 : ∃ (A4 : Option Addr) (c4 : Nat), (gh 6).v = .slice A4 (n + 1) c4 ∧ bM (inG (gh 6) [(gh 3), (gh 0)]) u 41 5 (.slice A4 (n + 1) c4) ((n + 1)) ((aQ l ++ aQ [bg l t ti k b])) := fG HF (hF 6)
  obtain ⟨A4, c4, hv6, hrow6⟩ := f6; have hrt6 := hv6
  have r46 : ρ (.tmp 46) = .slice A4 (n + 1) c4 := (hd 6 (by decide +kernel) 46 (by kernel_rfl)).trans hv6
  have HRT6 := lH hrt6
  clear hv6 hrt6 hd h0 he ha hF; go_simp
  rw [HF.out]
  exact ⟨aS.refl _ _, A4, c4, HRT6.out, rfl⟩
 ·intro gh ρ u _ _ _ hd h0 hb he ha hF
  have r5 : ρ (.tmp 5) = .pointer (some ⟨w.heap.size, 0, none⟩) := (h0 5 (by decide +kernel)).trans rfl
  clear hd h0 he ha hF; go_simp; exact fE HF rfl
 ·intro gh ρ u _ _ _ hd h0 hb he ha hF
  first | replace hb := hb.drew.below (by decide +kernel) | replace hb := hb.drew.only
  have hbz : w6.heap.size ≤ u.heap.size := hb.size
  have r48 : ρ (.tmp 48) = .pointer (some ⟨(w.heap.size), 0, none⟩) := fH (hd 8) 48 (fG HF (hF 8))
  first | have q_l0 := (HXl0.out.below hb).2.1 | have q_l0 := (HXl0.out.only hb (by omega)).2.1
  have k_l0 : w.heap.size < u.heap.size := by have := HXl0.out.1; omega
  first | have q_e := (HXe.out.below hb).2.1 | have q_e := (HXe.out.only hb (by omega)).2.1
  have k_e : w4.heap.size < u.heap.size := by have := HXe.out.1; omega
  clear hd h0 he ha hF; go_simp; exact fE HF rfl
 ·intro gh ρ u _ _ _ hd h0 hb he ha hF
  have r49 : ρ (.tmp 49) = .slice A n c := fH (hd 9) 49 (fG HF (hF 9))
  clear hd h0 he ha hF; go_simp; exact fE HF rfl
 ·intro gh ρ u _ _ _ hd h0 hb he ha hF
  first | replace hb := hb.drew.below (by decide +kernel) | replace hb := hb.drew.only
  have hbz : w6.heap.size ≤ u.heap.size := hb.size
  have r10 : ρ (.tmp 10) = .pointer (some ⟨w.heap.size + 1, 0, none⟩) := (h0 10 (by decide +kernel)).trans rfl
  have f7 : ∃ (A4 : Option Addr) (c4 : Nat), (gh 6).v = .slice A4 (n + 1) c4 ∧ (gh 7).v = .agg #[.slice A4 (n + 1) c4] := fG HF (hF 7)
  obtain ⟨A4, c4, hrt6, hv7⟩ := f7
  have r47 : ρ (.tmp 47) = .agg #[.slice A4 (n + 1) c4] := (hd 7 (by decide +kernel) 47 (by kernel_rfl)).trans hv7
  have HRT6 := lH hrt6
  obtain ⟨hzk, hzc, hzf⟩ := HXr0.out.below hb
  clear hv7 hrt6 hd h0 he ha hF; go_simp
  rw [HF.out]
  refine ⟨?_, A4, c4, HRT6.out, ?_⟩
  ·refine aS.of_z (lo := w.heap.size + 1) (hi := w.heap.size + 1 + 1) ?_ rfl; refine Only.setCell ?_ (by exact Nat.le_refl _) (by exact Nat.lt_succ_self _) _; exact Only.refl _ _ _
  show aa _ (w.heap.size + 1) _
  exact ⟨by simpa [World.setCell] using hzk, fun o => by rcases o with _ | o <;> go_simp, fun o => by go_simp⟩
 ·intro gh ρ u _ _ _ hd h0 hb he ha hF
  have r50 : ρ (.tmp 50) = .int .i64 (n : Nat) := fH (hd 10) 50 (fG HF (hF 10))
  clear hd h0 he ha hF; go_simp; exact fE HF rfl
 ·intro gh ρ u _ _ _ hd h0 hb he ha hF
  clear hd h0 he ha hF; go_simp; exact fE HF rfl
 intro gh w7 hB hE hA hF
 replace hB : Only (w.heap.size + 1) (w.heap.size + 1 + 1) w6 w7 := hB.only
 have f1 : (gh 1).v = .pointer (some ⟨(w.heap.size), 0, none⟩) := fG HF (hF 1)
 have f2 : (gh 2).v = .slice A n c := fG HF (hF 2)
 have f4 : (gh 4).v = .agg #[.string t, .int .i64 (cnt l t : Nat), .int .i64 ti, .string k, .string b] := fG HF (hF 4)
 have f5 : (gh 5).v = .slice (some ⟨(gh 5).s, 0, none⟩) 1 1 ∧ (gh 5).s < (gh 5).e ∧ aa w7 (gh 5).s (aQ [(bg l t ti k b)]) := fG HF (hF 5)
 have f6 : ∃ (A4 : Option Addr) (c4 : Nat), (gh 6).v = .slice A4 (n + 1) c4 ∧ bM (inG (gh 6) [(gh 3), (gh 0)]) w7 41 5 (.slice A4 (n + 1) c4) ((n + 1)) ((aQ l ++ aQ [bg l t ti k b])) := fG HF (hF 6)
 have f7 : ∃ (A4 : Option Addr) (c4 : Nat), (gh 6).v = .slice A4 (n + 1) c4 ∧ (gh 7).v = .agg #[.slice A4 (n + 1) c4] := fG HF (hF 7)
 have f8 : (gh 8).v = .pointer (some ⟨(w.heap.size), 0, none⟩) := fG HF (hF 8)
 have f9 : (gh 9).v = .slice A n c := fG HF (hF 9)
 have f10 : (gh 10).v = .int .i64 (n : Nat) := fG HF (hF 10)
 have f11 : ∃ (A4 : Option Addr) (c4 : Nat), (gh 6).v = .slice A4 (n + 1) c4 ∧ aa w7 (w.heap.size + 1) [.slice A4 (n + 1) c4] := fG HF (hF 11)
 have f12 : (gh 12).v = .int .i64 (n : Nat) := fG HF (hF 12)
 have f13 : (gh 13).v = .int .i64 0 := fG HF (hF 13)
 obtain ⟨A4, c4, hv6, hrow6⟩ := f6
 have hv1 := f1
 have hv2 := f2
 have hv4 := f4
 obtain ⟨hv5, -⟩ := f5
 obtain ⟨A4_7, c4_7, hu6, hv7⟩ := f7
 replace hu6 := hv6.symm.trans hu6
 simp at hu6
 try simp only [and_assoc] at hu6
 obtain ⟨rfl, rfl⟩ := hu6
 have hv8 := f8
 have hv9 := f9
 have hv10 := f10
 obtain ⟨A4_11, c4_11, hu6, hx11⟩ := f11
 replace hu6 := hv6.symm.trans hu6
 simp at hu6
 try simp only [and_assoc] at hu6
 obtain ⟨rfl, rfl⟩ := hu6
 have hv12 := f12
 have hv13 := f13
 obtain ⟨hs0, hse0, he0⟩ := hE 0 (by decide +kernel)
 obtain ⟨hs3, hse3, he3⟩ := hE 3 (by decide +kernel)
 obtain ⟨hs6, hse6, he6⟩ := hE 6 (by decide +kernel)
 have hdj7_0_3 := hA 0 (by decide +kernel) 3 (by decide +kernel) (by decide)
 have hdj7_0_6 := hA 0 (by decide +kernel) 6 (by decide +kernel) (by decide)
 have hdj7_3_6 := hA 3 (by decide +kernel) 6 (by decide +kernel) (by decide)
 change w6.heap.size ≤ _ at hs0 hs3 hs6
 have hS : ∀ k, inG (gh 6) [gh 3, gh 0] k → w6.heap.size ≤ k ∧ k < w7.heap.size := by
  rintro k (h | ⟨t, ht, h⟩)
  ·omega
  simp only [List.mem_cons, List.not_mem_nil, or_false] at ht
  rcases ht with rfl | rfl <;> omega
 have hrwr := hrow6.row
 obtain ⟨hrcr, hrnr, hror⟩ := hrow6.own hS (Nat.le_refl _)
 clear hS hrow6
 clear hE hA hF
 generalize (gh 0).v = vq0 at *
 generalize (gh 3).v = vq3 at *
 simp only [dQ, Nat.reduceAdd, hv1, hv2, hv4, hv5, hv6, hv7, hv8, hv9, hv10, hv12, hv13]
 clear hv1 hv2 hv4 hv5 hv6 hv7 hv8 hv9 hv10 hv12 hv13
 generalize (gh 0).s = s7_0 at *
 generalize (gh 0).e = e7_0 at *
 generalize (gh 3).s = s7_3 at *
 generalize (gh 3).e = e7_3 at *
 generalize (gh 6).s = s7_6 at *
 generalize (gh 6).e = e7_6 at *
 clear HF
 have hb := hB
 clear hB
 have hzw7 : w6.heap.size ≤ w7.heap.size := hb.size
 replace HB := lH (au HB.out hb (by omega) HB.out.size)
 replace HOA := lH (HOA.out.only hb (by first | omega | (simp; omega)))
 replace HXl0 := nO HXl0 hb
 clear hxl0 hfl0 hkl0
 obtain ⟨hkl0, hxl0, hfl0⟩ := HXl0.out
 clear hxr0 hfr0 hkr0 HXr0
 replace HXe := nO HXe hb
 clear hxe hfe hke
 obtain ⟨hke, hxe, hfe⟩ := HXe.out
 clear hb
 have HXr0 : Hid (aa w7 (w.heap.size + 1) [.slice A4 (n + 1) c4]) := hx11
 obtain ⟨hkr0, hxr0, hfr0⟩ := HXr0.out
 clear hx11
 have ey := addL_yes hc.out
 have el : Hid ((addL l t ti k b).length = n + 1) := by rw [Hid, ey.1, List.length_append, HN.out]; rfl
 have el2 : Hid (aQ (addL l t ti k b) = aQ l ++ aQ [bg l t ti k b]) := by rw [Hid, ey.1, ents_app]
 have ef : Hid (addLeaf l t ti k b = (n : Nat)) := by rw [Hid, ey.2, HN.out]
 have HRO := lH hror
 have HRN := lH hrnr
 have HRC := lH hrcr
 clear ey hror hrnr hrwr hrcr
 go_wp2
 refine bodyPost_ret (v := .tuple #[.agg #[.slice A4 (n + 1) c4], .int .i64 n, .int .i64 0]) (by simp [results, Tryz.results107, go_sem, hxr0]) rfl ?_
 exact ⟨A4, c4, by rw [el.out, ef.out, hc.out], ⟨HRN.out, by rw [el.out]; exact HRC.out⟩, by rw [el2.out]; exact HRO.out.mono (by omega) (Nat.le_refl _) (Nat.le_refl _), (by ((repeat first | with_reducible apply bA | with_reducible apply bD | (with_reducible refine bS ?_ ?_; (focus (first | omega | simp <;> omega)))); exact HB.out))⟩
theorem addEntry_yes (p o base : Nat) (A : Option Addr) (c n : Nat) (l : List Ent) (t : ByteArray) (ti : Int) (k b : ByteArray) (w : World) (hp : w.cell? ⟨p, o, none⟩ = some (.slice A n c)) (hpf : w.frozen? ⟨p, o, none⟩ = false)
  (hown : w.ownsRow base 41 5 (.slice A n c) n (aQ l)) (hpb : (.slice A n c : Value).ownBlock ≠ some p) (hn : l.length = n) (hl : n ≤ 512)
  (ht : t.size ≤ 1048576) (hk : k.size ≤ 1048576) (hb : b.size ≤ 1048576) (hc : bL l t ti k b = 0) (hbase : base ≤ w.heap.size) :
  Calls Tryz.prog 136 #[.pointer (some ⟨p, o, none⟩), .string t, .int .i64 ti, .string k, .string b] w fun e w' => ∃ (g cap : Nat) (w1 : World), e = .returned (.tuple #[.int .i64 n, .int .i64 0]) ∧
   w1.ownsRow base 41 5 (.slice (some ⟨g, 0, none⟩) (n + 1) cap) (n + 1) (aQ (l ++ [bg l t ti k b])) ∧ w.grownBy w1 (.slice A n c : Value).ownBlock ∧ ((.slice A n c : Value).ownBlock = some g ∨ w.heap.size ≤ g) ∧
   w' = w1.setCell ⟨p, o, none⟩ (.slice (some ⟨g, 0, none⟩) (n + 1) cap) := by
 have HN := lH hn
 have HC := lH hc
 have hpz := World.block_lt_of_cell? w _ hp
 have HO := lH hown
 have HB := lH hpb
 obtain ⟨A0, c0, e0, _, _, hO⟩ := az hown
 injection e0 with e1 e2 e3
 subst e1
 subst e3
 have HRD := lH hO.rd
 obtain ⟨i0, hi0, hz0, hz1, hz2⟩ := info_parts info_Entry
 clear hn hc hown hpb hO e2
 go_enter Tryz.func136, Tryz.ntmps136
 go_wp2_with fail
 refine (implNameOk_c t _ (by unfold maxLen; omega)).mono ?_
 rintro e w1 ⟨rfl, rfl⟩
 rcases h1 : bW t with _ | _
 ·have h := HC.out; rw [bL, h1] at h; cases h
 have H1 := lH h1
 clear h1
 go_wp2_with fail
 refine (partsOk_c ti k b _ (by unfold maxLen; omega) (by unfold maxLen; omega)).mono ?_
 rintro e w1 ⟨rfl, rfl⟩
 rcases h2 : dK ti k b with _ | _
 ·have h := HC.out; rw [bL, H1.out, h2] at h; cases h
 have H2 := lH h2
 clear h2
 have h5 : n < 512 := by
  have h := HC.out
  rw [bL, H1.out, H2.out, HN.out, if_pos rfl, if_pos rfl] at h
  by_cases h5 : 512 ≤ n
  ·rw [if_pos (by simpa using h5)] at h; cases h
  omega
 go_wp2_with fail
 refine (nextOf_c A c _ _ n l t _ HRD.out HN.out (by omega)).mono ?_
 rintro e w2 ⟨rfl, hb2⟩
 have hp2 := cell_later hb2 hp
 have hpf2 := froz_later hb2 hp hpf
 have hz2' : w.heap.size ≤ w2.heap.size := hb2.size
 have HB2 := lH hb2
 have HO2 : Hid (w2.ownsRow base 41 5 (.slice A n c) n (aQ l)) := HO.out.kept (row := none) ⟨hb2.os, hb2.tape, hb2.output, hb2.size, fun k hk _ => hb2.block k hk⟩ (by
  rcases hx : (.slice A n c : Value).ownBlock with _ | q
  ·exact .inl rfl
  exact .inr (by intro h; cases h))
 clear hb2
 go_wp2_with fail
 refine aC (fun w3 hw => ?_)
 have hz3 : w3.heap.size = w2.heap.size + 1 := by rw [hw]; simp
 have hp3 : w3.cell? ⟨p, o, none⟩ = some (.slice A n c) := by rw [hw]; exact fC _ _ hp2
 have hpf3 : w3.frozen? ⟨p, o, none⟩ = false := by rw [hw]; exact froz_alloc_old _ _ hp2 hpf2
 have HE : Hid (aa w3 w2.heap.size [.string t, .int .i64 (cnt l t : Nat), .int .i64 ti, .string k, .string b]) := by
  rw [Hid, hw]; exact ⟨by simp, fun o => by rcases o with _ | _ | _ | _ | _ | o <;> go_simp, fun o => by go_simp⟩
 have HO3 : Hid (w3.ownsRow base 41 5 (.slice A n c) n (aQ l)) := by rw [Hid, hw]; exact HO2.out.alloc _
 have HG3 : Hid (w.grownBy w3 none) := by rw [Hid, hw]; exact grown_below (aj HB2.out ((Below.refl _ _).alloc (Nat.le_refl _) _) HB2.out.size)
 clear hw
 have hxe := HE.out.2.1
 have hp3z : p < w3.heap.size := by omega
 have hz3' : w2.heap.size < w3.heap.size := by omega
 have HZ3 := lH hz3
 clear hz3
 have HE2 : Hid ((.slice A n c : Value).ownBlock ≠ some w2.heap.size) := fun h => by have := (HO.out.lt _ h).2; omega
 go_region_law
  ((refine step_append_lies _ (by rfl) _ _ _ (by rfl) base 41 i0 _ 5 64 Tryz.underlying24 hi0 hz0 hz1 hz2 rfl (by omega) (.slice A n c) n (aQ l) (by rfl) ((HO3.out.alloc _).drew)
      ⟨w3.heap.size, 0, none⟩ 1 1 (aQ [bg l t ti k b]) (by rfl) (by rfl) (World.news_of_block (heap_alloc_new w3 _)) (cloneEnt_one _)
      (by omega) (by unfold maxLen; omega) (by omega) (by simp; omega) (w3.heap.size + 1) (by simp) ?_; intro gg cap w4 hown4 hgrow hat hlt
    have hp4 : w4.cell? ⟨p, o, none⟩ = some (.slice A n c) := (World.cell?_of_block (hgrow.block p (by simp; omega) (Ne.symm HB.out))).trans (by go_simp)
    have hpf4 : w4.frozen? ⟨p, o, none⟩ = false := (World.frozen?_of_block (hgrow.block p (by simp; omega) (Ne.symm HB.out))).trans (by go_simp)
    ))
 all_goals
  go_wp2
  go_ret2
  rw [← ents_app] at hown4
  refine ⟨gg, cap, w4, rfl, hown4, ?_, hat.imp id (fun h => by omega), rfl⟩
  have hb4 : Below w3.heap.size w3 ((w3.alloc (.cells #[.string t, .int .i64 (cnt l t : Nat), .int .i64 ti, .string k, .string b] 41)).drew) := ((Below.refl _ _).alloc (Nat.le_refl _) _).drew
  have hs3 := HG3.out.size
  exact ⟨hgrow.os.trans HG3.out.os, hgrow.tape.trans HG3.out.tape, hgrow.output.trans HG3.out.output, Nat.le_trans HG3.out.size (Nat.le_trans hb4.size hgrow.size), fun q hq hne => (hgrow.block q (Nat.lt_of_lt_of_le (Nat.lt_of_lt_of_le hq hs3) hb4.size) hne).trans ((hb4.block q (by omega)).trans (HG3.out.block q hq (by intro h; cases h)))⟩
theorem copyLog_c (A : Option Addr) (c lo hi n : Nat) (l : List Ent) (w : World) (hr : Rd w lo hi A (aQ l)) (hn : l.length = n) (hl : n ≤ 1048576) (hA : A = none → c = 0) :
  Calls Tryz.prog 132 #[.agg #[.slice A n c]] w fun e w' => ∃ (A' : Option Addr) (c' : Nat), e = .returned (.agg #[.slice A' n c']) ∧ w'.ownsRow w.heap.size 41 5 (.slice A' n c') n (aQ l) ∧ Below w.heap.size w w' := by
 have HN := lH hn
 clear hn
 go_enter Tryz.func132, Tryz.ntmps132
 have HB : Hid (Below w.heap.size w w) := Below.refl _ _
 have HOA : Hid (Rd w (0) (w.heap.size) (A) (aQ l)) := Rd.base hr
 clear hr
 go_wp2_with fail
 refine af (fun w1 hw => ?_)
 have hz1 : w.heap.size + 2 ≤ w1.heap.size := zA
 have hbn : Below w.heap.size w w1 := zB
 replace HB := bT HB hbn
 replace HOA := lH (HOA.out.below hbn)
 clear hbn
 have HXl0 : Hid (aa w1 (w.heap.size) [.slice A n c]) := zG1
 obtain ⟨hkl0, hxl0, hfl0⟩ := HXl0.out
 have HXr0 : Hid (aa w1 (w.heap.size + 1) [.slice none 0 0]) := zG1
 obtain ⟨hkr0, hxr0, hfr0⟩ := HXr0.out
 clear hw
 refine (cloneEntR_c A c _ _ n l _ HOA.out HN.out hl hA).mono ?_
 rintro e w2 ⟨A', c', rfl, hrow, hb⟩
 have hzw2 : w1.heap.size ≤ w2.heap.size := hb.size
 replace HB := bT HB hb
 replace HOA := lH (HOA.out.below hb)
 replace HXl0 := nB HXl0 hb
 clear hxl0 hfl0 hkl0
 obtain ⟨hkl0, hxl0, hfl0⟩ := HXl0.out
 replace HXr0 := nB HXr0 hb
 clear hxr0 hfr0 hkr0
 obtain ⟨hkr0, hxr0, hfr0⟩ := HXr0.out
 clear hb
 go_wp2
 refine bodyPost_ret (v := .agg #[.slice A' n c']) (by simp [results, Tryz.results132, go_sem, World.cell?_setCell_same _ _ _ (HXr0.out.cell (o := 0) rfl)]) rfl ?_
 exact ⟨A', c', rfl, ownsRow_lower (ownsRow_setCell hrow (by simp; omega) _) (by omega), (by ((repeat first | with_reducible apply bA | with_reducible apply bD | (with_reducible refine bS ?_ ?_; (focus (first | omega | simp <;> omega)))); exact HB.out))⟩
theorem rightAt_snoc {l : List Ent} {e : Ent} {k : Nat} (hk : k < l.length) : rightAt (l ++ [e]) k = rightAt l k := by
 rw [rightAt, rightAt, List.getElem?_append_left hk, List.take_append_of_le_length (Nat.le_of_lt hk)]
theorem logOk_snoc {l : List Ent} {e : Ent} (h : gI l = true) (hl : l.length < 512) (he : aY e = true) (hi : (cnt l e.topic : Int) = e.index) : gI (l ++ [e]) = true := by
 rw [gI, Bool.and_eq_true] at *
 refine ⟨decide_eq_true (by rw [List.length_append]; show l.length + 1 ≤ 512; omega), ?_⟩
 rw [List.length_append, show [e].length = 1 from rfl, rightTo_succ, Bool.and_eq_true]
 refine ⟨?_, ?_⟩
 ·have h2 := h.2
  rw [gV, List.all_eq_true] at *
  intro k hk
  rw [rightAt_snoc (List.mem_range.1 hk)]
  exact h2 k hk
 rw [rightAt_eq (e := e) (by rw [List.getElem?_append_right (Nat.le_refl _), Nat.sub_self]; rfl), List.take_append_of_le_length (Nat.le_refl _), List.take_length, he, hi]
 simp
theorem rcpAt_snoc {l : List Rcp} {e : Rcp} {k : Nat} (hk : k < l.length) : rcpAt (l ++ [e]) k = rcpAt l k := by
 rw [rcpAt, rcpAt, List.getElem?_append_left hk, List.take_append_of_le_length (Nat.le_of_lt hk)]
theorem rcpsOk_snoc {l : List Rcp} {r : Rcp} (h : eF l = true) (hl : l.length < 512) (hr : bZ r = true) (hn : r ∉ l) : eF (l ++ [r]) = true := by
 rw [eF, Bool.and_eq_true] at *
 refine ⟨decide_eq_true (by rw [List.length_append]; show l.length + 1 ≤ 512; omega), ?_⟩
 rw [List.length_append, show [r].length = 1 from rfl, rcpsTo_succ, Bool.and_eq_true]
 refine ⟨?_, ?_⟩
 ·have h2 := h.2
  rw [rcpsTo, List.all_eq_true] at *
  intro k hk
  rw [rcpAt_snoc (List.mem_range.1 hk)]
  exact h2 k hk
 rw [rcpAt_eq (r := r) (by rw [List.getElem?_append_right (Nat.le_refl _), Nat.sub_self]; rfl), List.take_append_of_le_length (Nat.le_refl _), List.take_length, hr, decide_eq_true hn]
 rfl
theorem headAt_snoc {width : Int} {l : List Hd} {e : Hd} {k : Nat} (hk : k < l.length) : gD width (l ++ [e]) k = gD width l k := by
 obtain ⟨x, hx⟩ : ∃ x, l[k]? = some x := ⟨_, List.getElem?_eq_getElem hk⟩
 have hx2 : (l ++ [e])[k]? = some x := by rw [List.getElem?_append_left hk]; exact hx
 rcases Nat.eq_zero_or_pos k with h0 | h0
 ·subst h0
  rw [headAt_0 hx, headAt_0 hx2]
 obtain ⟨p, hp⟩ : ∃ p, l[k - 1]? = some p := ⟨_, List.getElem?_eq_getElem (by omega)⟩
 have hp2 : (l ++ [e])[k - 1]? = some p := by rw [List.getElem?_append_left (by omega)]; exact hp
 rw [headAt_s hx hp (by omega), headAt_s hx2 hp2 (by omega)]
theorem headsUp_snoc {width : Int} {l : List Hd} {e : Hd} : ∀ {k : Nat}, k ≤ l.length → dE width (l ++ [e]) k = dE width l k
 | 0, _ => rfl
 | k + 1, h => by rw [dE, dE, headsUp_snoc (by omega), headAt_snoc (by omega)]
theorem dS (l : List Hd) (x : Hd) : ae (l ++ [x]) = x := by
 rw [ae, List.length_append, show l.length + [x].length - 1 = l.length from rfl, List.getD_eq_getElem?_getD, List.getElem?_append_right (Nat.le_refl _), Nat.sub_self]; rfl
theorem headsOk_snoc {width : Int} {l : List Hd} {x : Hd} (h : dY width l = true) (h0 : 0 < l.length) (hl : l.length < 400) (hn : x.num = (l.length : Int)) (hx : bE width x = true) (hf : fB width (ae l) x = true) : dY width (l ++ [x]) = true := by
 rw [dY, Bool.and_eq_true, Bool.and_eq_true] at *
 refine ⟨⟨h.1.1, decide_eq_true (by rw [List.length_append]; show l.length + 1 ≤ 400; omega)⟩, ?_⟩
 rw [List.length_append, show [x].length = 1 from rfl, dE, headsUp_snoc (Nat.le_refl _), h.2, Bool.true_and,
  headAt_s (x := x) (p := ae l) (q := l.length - 1) (by rw [List.getElem?_append_right (Nat.le_refl _), Nat.sub_self]; rfl) (by rw [List.getElem?_append_left (by omega)]; exact eH h0) (by omega), hx, hf, hn]
 simp
theorem headsOk_len {width : Int} {l : List Hd} (h : dY width l = true) : l.length ≤ 400 := by
 rw [dY, Bool.and_eq_true, Bool.and_eq_true] at h
 exact of_decide_eq_true h.1.2
theorem eB {width : Int} {L T : List ByteArray} {hs : List Hd} : di width L T hs = true ↔ hs[0]? = some (bI width) ∧ ∀ x ∈ hs, dC width L T x = true := by
 rw [di, Bool.and_eq_true, decide_eq_true_iff, fI, List.take_length, List.all_eq_true]
theorem rootsAt_more {width : Int} {L T M N : List ByteArray} {x : Hd} (h : dC width L T x = true) : dC width (L ++ M) (T ++ N) x = true := by
 obtain ⟨h1, h2, h3, h4⟩ := rootsAt_all h
 rw [dC, decide_eq_true (show x.size ≤ ((L ++ M).length : Nat) by rw [List.length_append]; omega), decide_eq_true (show x.taken ≤ ((T ++ N).length : Nat) by rw [List.length_append]; omega),
  List.take_append_of_le_length (by omega), List.take_append_of_le_length (by omega), ← h3, ← h4]
 simp
theorem leavesM_app (width : Int) (a b : List Ent) : aF width (a ++ b) = aF width a ++ aF width b := List.map_append
theorem takenM_app (width : Int) (a b : List Rcp) : aM width (a ++ b) = aM width a ++ aM width b := List.map_append
theorem leavesM_drop (width : Int) (a : List Ent) (n : Nat) : aF width (a.drop n) = (aF width a).drop n := List.map_drop
theorem takenM_drop (width : Int) (a : List Rcp) (n : Nat) : aM width (a.drop n) = (aM width a).drop n := List.map_drop
theorem leafIn_more {es fs : List Ent} {m k : Nat} {r : Rcp} (h : dN es m r = true) (hm : m ≤ es.length) (hk : m ≤ k) : dN (es ++ fs) k r = true := by
 rw [dN, decide_eq_true_iff] at *
 have h2 : aN (fU r.topic r.index) (((es ++ fs).take k).take m) 0 = aN (fU r.topic r.index) (es.take m) 0 := by
  rw [List.take_take, Nat.min_eq_left hk, List.take_append_of_le_length hm]
 have h3 := firstFrom_take (p := fU r.topic r.index) ((es ++ fs).take k) m 0
 rw [h2, decide_eq_true h] at h3
 have h4 := h3.symm
 rw [Bool.and_eq_true] at h4
 exact of_decide_eq_true h4.1
theorem addCode_0 {l : List Ent} {t k b : ByteArray} {ti : Int} (h : bL l t ti k b = 0) : bW t = true ∧ dK ti k b = true ∧ l.length < 512 := by
 rw [bL] at h
 by_cases h1 : bW t = true
 ·rw [if_pos h1] at h
  by_cases h2 : dK ti k b = true
  ·rw [if_pos h2] at h
   by_cases h3 : 512 ≤ l.length
   ·rw [if_pos (by simpa using h3)] at h; omega
   exact ⟨h1, h2, by omega⟩
  rw [if_neg h2] at h; omega
 rw [if_neg h1] at h; omega
theorem newEnt_ok {l : List Ent} {t k b : ByteArray} {ti : Int} (h : bL l t ti k b = 0) : aY (bg l t ti k b) = true := by
 obtain ⟨h1, h2, h3⟩ := addCode_0 h
 rw [aY, bg]
 show (bW t && (inR (cnt l t : Nat) 0 511 && dK ti k b)) = true
 rw [h1, h2, ax.2 ⟨Int.natCast_nonneg _, by have := cnt_le l t; omega⟩]; rfl
theorem logOk_add {l : List Ent} {t k b : ByteArray} {ti : Int} (hl : gI l = true) (h : bL l t ti k b = 0) : gI (l ++ [bg l t ti k b]) = true :=
 logOk_snoc hl (addCode_0 h).2.2 (newEnt_ok h) rfl
section
variable {width : Int} {es : List Ent} {rs : List Rcp} {hs : List Hd}
theorem aB.publish (h : aB width es rs hs) {t k b : ByteArray} {ti : Int} (hc : bL es t ti k b = 0) : aB width (es ++ [bg es t ti k b]) rs hs := by
 refine ⟨h.wd, logOk_add h.log hc, h.bf, h.pos, h.heads, ?_, fun r hr => leafIn_more (h.ins r hr) (by have := h.last; omega) (Nat.le_refl _)⟩
 obtain ⟨h1, h2⟩ := eB.1 h.roots
 refine eB.2 ⟨h1, fun x hx => ?_⟩
 rw [leavesM_app, ← List.append_nil (aM width rs)]
 exact rootsAt_more (h2 x hx)
theorem aB.take (h : aB width es rs hs) {r : Rcp} (h1 : bZ r = true) (h2 : dN es (ae hs).size.toNat r = true) (h3 : r ∉ rs) (h4 : rs.length < 512) : aB width es (rs ++ [r]) hs := by
 refine ⟨h.wd, h.log, rcpsOk_snoc h.bf h4 h1 h3, h.pos, h.heads, ?_, fun x hx => ?_⟩
 ·obtain ⟨k1, k2⟩ := eB.1 h.roots
  refine eB.2 ⟨k1, fun x hx => ?_⟩
  rw [takenM_app, ← List.append_nil (aF width es)]
  exact rootsAt_more (k2 x hx)
 rcases List.mem_append.1 hx with hx | hx
 ·exact h.ins x hx
 rw [List.mem_singleton.1 hx]; exact h2
def pk1 (width : Int) (es : List Ent) (hs : List Hd) : List ByteArray := ay width 0 [] (aF width es) (ae hs).size.toNat
def pk2 (width : Int) (rs : List Rcp) (hs : List Hd) : List ByteArray := ay width 0 [] (aM width rs) (ae hs).taken.toNat
theorem aB.ok (h : aB width es rs hs) : brkOk width es rs hs (ae hs).size (pk1 width es hs) (ae hs).taken (pk2 width rs hs) (ae hs) = true := by
 rw [brkOk, h.mk_, sealIs, pk1, pk2]; simp
theorem aB.sealed (h : aB width es rs hs) : eD width (ae hs).size (pk1 width es hs) (ae hs).taken (pk2 width rs hs) (ae hs) = true :=
 seal_right h (by rw [sealIs, pk1, pk2]; simp)
def eU (width : Int) (es : List Ent) (rs : List Rcp) (hs : List Hd) : Hd := ⟨hs.length, (es.length : Nat), bF width 513 (aF width es), (rs.length : Nat), bF width 513 (aM width rs)⟩
theorem smP_all {width z : Int} {L : List ByteArray} (h0 : 0 ≤ z) (hz : z ≤ (L.length : Nat)) : smP width z (ay width 0 [] L z.toNat) (L.drop z.toNat) = ay width 0 [] L L.length := by
 rw [smP, List.length_drop]
 have h := growUp_part (width := width) (L := L) (n := z.toNat) (m := L.length) (by omega) (Nat.le_refl _)
 rwa [List.take_of_length_le (by rw [List.length_drop]; exact Nat.le_refl _)] at h
theorem aB.lastAt (h : aB width es rs hs) : (ae hs).num = ((hs.length - 1 : Nat) : Int) ∧ dC width (aF width es) (aM width rs) (ae hs) = true := by
 have hg := eH h.pos
 exact ⟨(fA h.heads hg).1, (eB.1 h.roots).2 _ (List.mem_of_getElem? hg)⟩
theorem aB.sm (h : aB width es rs hs) (hl : hs.length < 400) :
  smOk width (ae hs).size (pk1 width es hs) (ae hs).taken (pk2 width rs hs) (ae hs) (aF width (es.drop (ae hs).size.toNat)) (aM width (rs.drop (ae hs).taken.toNat)) = true ∧
  smP width (ae hs).size (pk1 width es hs) (aF width (es.drop (ae hs).size.toNat)) = ay width 0 [] (aF width es) es.length ∧
  smP width (ae hs).taken (pk2 width rs hs) (aM width (rs.drop (ae hs).taken.toNat)) = ay width 0 [] (aM width rs) rs.length ∧
  nextHd width (ae hs).size (pk1 width es hs) (ae hs).taken (pk2 width rs hs) (ae hs) (aF width (es.drop (ae hs).size.toNat)) (aM width (rs.drop (ae hs).taken.toNat)) = eU width es rs hs := by
 obtain ⟨b1, b2, b3, b4, b5, b6, b7⟩ := h.last
 have hn := h.lastAt.1
 have hp := h.pos
 have g1 := logOk_len h.log
 have g2 := gz h.bf
 have e1 : smP width (ae hs).size (pk1 width es hs) (aF width (es.drop (ae hs).size.toNat)) = ay width 0 [] (aF width es) es.length := by
  rw [leavesM_drop, pk1, smP_all b1 (by rw [bK]; exact b2), bK]
 have e2 : smP width (ae hs).taken (pk2 width rs hs) (aM width (rs.drop (ae hs).taken.toNat)) = ay width 0 [] (aM width rs) rs.length := by
  rw [takenM_drop, pk2, smP_all b4 (by rw [bP]; exact b5), bP]
 refine ⟨smOk_of h.sealed ?_ ?_ ?_ ?_ (by omega), e1, e2, ?_⟩
 ·rw [leavesM_drop]; exact (take_are (leavesM_are h.wd h.log) _).2
 ·rw [takenM_drop]; exact (take_are (takenM_are h.wd h.bf) _).2
 ·rw [bK, List.length_drop]; omega
 ·rw [bP, List.length_drop]; omega
 rw [nextHd, e1, e2, growUp_root (by rw [bK]; exact Nat.le_refl _) g1, growUp_root (by rw [bP]; exact Nat.le_refl _) g2, List.take_of_length_le (by rw [bK]; exact Nat.le_refl _), List.take_of_length_le (by rw [bP]; exact Nat.le_refl _), bK, bP, List.length_drop, List.length_drop, hn, eU]
 refine Hd.eq_of ?_ ?_ rfl ?_ rfl
 ·show ((hs.length - 1 : Nat) : Int) + 1 = (hs.length : Int); omega
 ·show (ae hs).size + ((es.length - (ae hs).size.toNat : Nat) : Int) = (es.length : Int); omega
 show (ae hs).taken + ((rs.length - (ae hs).taken.toNat : Nat) : Int) = (rs.length : Int); omega
theorem aB.nextOk (h : aB width es rs hs) (hl : hs.length < 400) : bE width (eU width es rs hs) = true := by
 obtain ⟨s1, s2, s3, s4⟩ := h.sm hl
 have := seal_next s1
 rw [s4, eD, Bool.and_eq_true, Bool.and_eq_true] at this
 exact this.1.2
theorem bl_eq {a b : ByteArray} (h : a = b) : (a.toList == b.toList) = true := by rw [h]; exact beq_self_eq_true _
theorem aB.seal_ (h : aB width es rs hs) (hl : hs.length < 400) : aB width es rs (hs ++ [eU width es rs hs]) := by
 obtain ⟨b1, b2, b3, b4, b5, b6, b7⟩ := h.last
 obtain ⟨hn, hra⟩ := h.lastAt
 have hp := h.pos
 have hno := h.nextOk hl
 obtain ⟨r1, r2, r3, r4⟩ := rootsAt_all hra
 have hf : fB width (ae hs) (eU width es rs hs) = true := by
  have p1 : aheadM (ae hs) (eU width es rs hs) = false := by
   rw [aheadM, Bool.or_eq_false_iff, Bool.or_eq_false_iff]
   refine ⟨⟨decide_eq_false ?_, decide_eq_false ?_⟩, decide_eq_false ?_⟩
   ·show ¬ (hs.length : Int) ≤ (ae hs).num; omega
   ·show ¬ (es.length : Int) < (ae hs).size; omega
   show ¬ (rs.length : Int) < (ae hs).taken; omega
  have p2 : partedM (ae hs) (eU width es rs hs) = false := by
   rw [partedM]
   have q1 : ((ae hs).size == (eU width es rs hs).size) = true → ((ae hs).root.toList == (eU width es rs hs).root.toList) = true := fun e => bl_eq (by
    have e2 : (ae hs).size = (es.length : Int) := eq_of_beq e
    rw [r3, e2]
    show _ = bF width 513 (aF width es)
    rw [Int.toNat_natCast, List.take_of_length_le (by rw [bK]; exact Nat.le_refl _)])
   have q2 : ((ae hs).taken == (eU width es rs hs).taken) = true → ((ae hs).troot.toList == (eU width es rs hs).troot.toList) = true := fun e => bl_eq (by
    have e2 : (ae hs).taken = (rs.length : Int) := eq_of_beq e
    rw [r4, e2]
    show _ = bF width 513 (aM width rs)
    rw [Int.toNat_natCast, List.take_of_length_le (by rw [bP]; exact Nat.le_refl _)])
   rcases a1 : ((ae hs).size == (eU width es rs hs).size) with _ | _ <;> rcases a2 : ((ae hs).taken == (eU width es rs hs).taken) with _ | _
   ·cases h7 : ((ae hs).root.toList == (eU width es rs hs).root.toList) <;> cases h8 : ((ae hs).troot.toList == (eU width es rs hs).troot.toList) <;> rfl
   ·rw [q2 a2]; cases h7 : ((ae hs).root.toList == (eU width es rs hs).root.toList) <;> rfl
   ·rw [q1 a1]; cases h8 : ((ae hs).troot.toList == (eU width es rs hs).troot.toList) <;> rfl
   rw [q1 a1, q2 a2]; rfl
  rw [fB, b7, hno, p1, p2]; rfl
 refine ⟨h.wd, h.log, h.bf, by rw [List.length_append]; omega, headsOk_snoc h.heads hp hl rfl hno hf, ?_, fun r hr => ?_⟩
 ·obtain ⟨k1, k2⟩ := eB.1 h.roots
  refine eB.2 ⟨by rw [List.getElem?_append_left hp]; exact k1, fun x hx => ?_⟩
  rcases List.mem_append.1 hx with hx | hx
  ·exact k2 x hx
  rw [List.mem_singleton.1 hx, dC]
  show (decide ((es.length : Int) ≤ ((aF width es).length : Nat)) && (decide ((rs.length : Int) ≤ ((aM width rs).length : Nat)) && (decide (bF width 513 (aF width es) = bF width 513 ((aF width es).take (es.length : Int).toNat)) && decide (bF width 513 (aM width rs) = bF width 513 ((aM width rs).take (rs.length : Int).toNat))))) = true
  rw [Int.toNat_natCast, Int.toNat_natCast, List.take_of_length_le (by rw [bK]; exact Nat.le_refl _), List.take_of_length_le (by rw [bP]; exact Nat.le_refl _), bK, bP]
  simp
 rw [dS]
 have := leafIn_more (fs := []) (k := es.length) (h.ins r hr) (by omega) (by omega)
 rw [List.append_nil] at this
 exact this
theorem pk_next (h : aB width es rs hs) : pk1 width es (hs ++ [eU width es rs hs]) = ay width 0 [] (aF width es) es.length ∧ pk2 width rs (hs ++ [eU width es rs hs]) = ay width 0 [] (aM width rs) rs.length := by
 rw [pk1, pk2, dS]; exact ⟨rfl, rfl⟩
theorem growUp_sameR {L M : List ByteArray} {n : Nat} : ∀ {k : Nat}, k ≤ L.length → ay width n [] (L ++ M) k = ay width n [] L k
 | 0, _ => rfl
 | k + 1, h => by rw [ay, ay, growUp_sameR (by omega), List.getD_eq_getElem?_getD, List.getD_eq_getElem?_getD, List.getElem?_append_left (by omega)]
theorem pk1_more (h : aB width es rs hs) (fs : List Ent) : pk1 width (es ++ fs) hs = pk1 width es hs := by
 rw [pk1, pk1, leavesM_app, growUp_sameR (by rw [bK]; have := h.last; omega)]
theorem pk2_more (h : aB width es rs hs) (fs : List Rcp) : pk2 width (rs ++ fs) hs = pk2 width rs hs := by
 rw [pk2, pk2, takenM_app, growUp_sameR (by rw [bP]; have := h.last; omega)]
theorem aB.new (hw : inR width 1 32 = true) : aB width [] [] [bI width] := by
 have hk : bE width (bI width) = true := by
  rw [bE, hw, dX]
  have he := emptyT_size hw
  show ((true && inR 0 0 399 && (inR 0 0 512 && decide (((aR width).size : Int) = width) && (decide ((0 : Int) < 0) || decide (aR width = aR width)))) && dX width 0 (aR width)) = true
  rw [dX]
  have he2 : ((aR width).size : Int) = width := by first | exact he | omega
  rw [decide_eq_true he2, decide_eq_true (rfl : aR width = aR width)]
  rfl
 refine ⟨hw, rfl, rfl, Nat.succ_pos _, ?_, eB.2 ⟨rfl, fun x hx => by rw [List.mem_singleton.1 hx]; exact headZero_roots _ _ _⟩, fun r hr => by cases hr⟩
 rw [dY, hw, show [bI width].length = 1 from rfl, dE, dE, headAt_0 (x := bI width) rfl, hk]
 rfl
end
end
end Go.Proofs.YtoccjgcokffkbaaGreat
