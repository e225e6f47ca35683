/- AddEntry. -/
import Derived.Test.YtjmhebmjlnianaaFnA4
import Derived.Test.YtjmhebmjlnianaaApp
import Derived.Test.YtjmhebmjlnianaaPut
import Derived.Test.YtjmhebmjlnianaaReg
import Derived.Deep.RegionLaw
namespace Go.Proofs.Ytjmhebmjlnianaa
set_option linter.unusedVariables false
set_option linter.unusedSimpArgs false
open Go.RowKit

def newEnt (l : List Ent) (t : ByteArray) (ti : Int) (k b : ByteArray) : Ent := ⟨t, (cnt l t : Nat), ti, k, b⟩
def addCode (l : List Ent) (t : ByteArray) (ti : Int) (k b : ByteArray) : Int := if nameOk t then (if partsOk ti k b then (if decide (512 ≤ l.length) then 4 else 0) else 3) else 2
def addL (l : List Ent) (t : ByteArray) (ti : Int) (k b : ByteArray) : List Ent := if addCode l t ti k b = 0 then l ++ [newEnt l t ti k b] else []
def addLeaf (l : List Ent) (t : ByteArray) (ti : Int) (k b : ByteArray) : Int := if addCode l t ti k b = 0 then (l.length : Nat) else 0
theorem addL_no {l : List Ent} {t : ByteArray} {ti : Int} {k b : ByteArray} {c : Int} (h : addCode l t ti k b = c) (hc : c ≠ 0) : addL l t ti k b = [] ∧ addLeaf l t ti k b = 0 := by
  rw [addL, addLeaf, h, if_neg hc, if_neg hc]; exact ⟨rfl, rfl⟩
theorem addL_yes {l : List Ent} {t : ByteArray} {ti : Int} {k b : ByteArray} (h : addCode l t ti k b = 0) : addL l t ti k b = l ++ [newEnt l t ti k b] ∧ addLeaf l t ti k b = (l.length : Nat) := by
  rw [addL, addLeaf, h, if_pos rfl, if_pos rfl]; exact ⟨rfl, rfl⟩
theorem entryOk_0 {t k b : ByteArray} {ti : Int} (h : nameOk t = true) : entryOk ⟨t, 0, ti, k, b⟩ = partsOk ti k b := by
  rw [entryOk, h]; rfl
theorem ent_fits {t k b : ByteArray} {i ti : Int} (h1 : t.size ≤ 1048576) (hi : I64 i) (hti : I64 ti) (h2 : k.size ≤ 1048576) (h3 : b.size ≤ 1048576) : Ent.fits ⟨t, i, ti, k, b⟩ :=
  ⟨hi, hti, Nat.le_trans h1 (by unfold maxLen; omega), Nat.le_trans h2 (by unfold maxLen; omega), Nat.le_trans h3 (by unfold maxLen; omega)⟩
theorem cell_alloc_any (w : World) (o : Obj) {k i : Nat} (h : k < w.heap.size) : (w.alloc o).cell? ⟨k, i, none⟩ = w.cell? ⟨k, i, none⟩ :=
  ((Below.refl w.heap.size w).alloc (Nat.le_refl _) o).cell (p := ⟨k, i, none⟩) h
theorem grown_below {w w' : World} (h : Below w.heap.size w w') : w.grownBy w' none := ⟨h.os, h.tape, h.output, h.size, fun k hk _ => h.block k hk⟩
theorem ents_one (e : Ent) : ents [e] = [.string e.topic, .int .i64 e.index, .int .i64 e.time, .string e.key, .string e.body] := rfl
theorem ents_app (a b : List Ent) : ents (a ++ b) = ents a ++ ents b := by rw [ents, List.flatMap_append]; rfl

set_option maxRecDepth 100000 in
set_option maxHeartbeats 400000 in
theorem l09Add_c (A : Option Addr) (c lo hi n : Nat) (l : List Ent) (t : ByteArray) (ti : Int) (k b : ByteArray) (w : World) (hr : Rd w lo hi A (ents l)) (hn : l.length = n) (hl : n ≤ 512) (hA : A = none → c = 0)
    (ht : t.size ≤ 1048576) (hti : I64 ti) (hk : k.size ≤ 1048576) (hb : b.size ≤ 1048576) :
    Calls Try.prog 95 #[.agg #[.slice A n c], .string t, .int .i64 ti, .string k, .string b] w fun e w' => ∃ (A' : Option Addr) (c' : Nat), e = .returned (.tuple #[.agg #[.slice A' (addL l t ti k b).length c'], .int .i64 (addLeaf l t ti k b), .int .i64 (addCode l t ti k b)]) ∧
      (A' = none → c' = 0) ∧ Own w' w.heap.size w'.heap.size A' (ents (addL l t ti k b)) ∧ Below w.heap.size w w' := by
  have HN := Lib.hid hn
  have HI := Lib.hid hti
  clear hn hti
  go_enter Try.func95, Try.ntmps95
  have HB : Hid (Below w.heap.size w w) := Below.refl _ _
  have HOA : Hid (Rd w (0) (w.heap.size) (A) (ents l)) := Rd.base hr
  clear hr
  go_wp2_with fail
  refine calls_named (fun w1 hw => ?_)
  have hz1 : w.heap.size + 2 ≤ w1.heap.size := by rw [hw]; first | omega | (simp [World.setCell]; done) | (simp [World.setCell]; omega)
  have hzz1 : w.heap.size ≤ w1.heap.size := by omega
  replace HB : Hid (Below w.heap.size w w1) := by rw [Hid, hw]; exact (by ((repeat (first | refine Below.alloc ?_ (by first | omega | (simp; done) | (simp; omega)) _ | refine Below.drew ?_ | refine Below.setCell ?_ (by first | omega | (simp; done) | (simp; omega)) _)); exact HB.out))
  replace HOA : Hid (Rd w1 (0) (w.heap.size) (A) (ents l)) := by rw [Hid, hw]; (repeat (first | (with_reducible refine Rd.alloc ?_ _) | (with_reducible refine Rd.drew ?_) | ((with_reducible refine Rd.setCell ?_ ?_ _); rotate_left 1; (first | omega | (simp; done) | (simp; omega))))); exact HOA.out
  have HXl0 : Hid (NewBox w1 (w.heap.size) [.slice A n c]) := by rw [Hid, hw]; exact ⟨by first | omega | (simp [World.setCell]; done) | (simp [World.setCell]; omega), fun o => by rcases o with _ | o <;> go_simp, fun o => by go_simp⟩
  have hxl0 := HXl0.out.2.1
  have hfl0 := HXl0.out.2.2
  have hkl0 := HXl0.out.1
  have HXr0 : Hid (NewBox w1 (w.heap.size + 1) [.slice none 0 0]) := by rw [Hid, hw]; exact ⟨by first | omega | (simp [World.setCell]; done) | (simp [World.setCell]; omega), fun o => by rcases o with _ | o <;> go_simp, fun o => by go_simp⟩
  have hxr0 := HXr0.out.2.1
  have hfr0 := HXr0.out.2.2
  have hkr0 := HXr0.out.1
  clear hw
  refine (specNameOk_c t _ (by unfold maxLen; omega)).mono ?_
  rintro e w2_ ⟨rfl, rfl⟩
  rcases h1 : nameOk t with _ | _
  · have hc : Hid (addCode l t ti k b = 2) := by rw [Hid, addCode, h1]; rfl
    clear h1
    go_wp2
    refine bodyPost_ret (v := .tuple #[.agg #[.slice none 0 0], .int .i64 0, .int .i64 2]) (by simp [results, Try.results95, go_sem, World.cell?_setCell_same _ _ _ (HXr0.out.cell (o := 0) rfl)]) rfl ?_
    exact ⟨none, 0, by rw [hc.out, (addL_no hc.out (by decide)).1, (addL_no hc.out (by decide)).2]; rfl, fun _ => rfl, by rw [(addL_no hc.out (by decide)).1]; exact Own.nil, (by ((repeat (first | refine Below.alloc ?_ (by first | omega | (simp; done) | (simp; omega)) _ | refine Below.drew ?_ | refine Below.setCell ?_ (by first | omega | (simp; done) | (simp; omega)) _)); exact HB.out))⟩
  · have H1 := Lib.hid h1
    have hE := Lib.hid (entryOk_0 (k := k) (b := b) (ti := ti) h1)
    clear h1
    go_wp2_with fail
    refine calls_named (fun w3 hw => ?_)
    have hz3 : w1.heap.size + 0 ≤ w3.heap.size := by rw [hw]; first | omega | (simp [World.setCell]; done) | (simp [World.setCell]; omega)
    have hzz3 : w.heap.size ≤ w3.heap.size := by omega
    replace HB : Hid (Below w.heap.size w w3) := by rw [Hid, hw]; exact (by ((repeat (first | refine Below.alloc ?_ (by first | omega | (simp; done) | (simp; omega)) _ | refine Below.drew ?_ | refine Below.setCell ?_ (by first | omega | (simp; done) | (simp; omega)) _)); exact HB.out))
    replace HOA : Hid (Rd w3 (0) (w.heap.size) (A) (ents l)) := by rw [Hid, hw]; (repeat (first | (with_reducible refine Rd.alloc ?_ _) | (with_reducible refine Rd.drew ?_) | ((with_reducible refine Rd.setCell ?_ ?_ _); rotate_left 1; (first | omega | (simp; done) | (simp; omega))))); exact HOA.out
    replace HXl0 : Hid (NewBox w3 (w.heap.size) [.slice A n c]) := by rw [Hid, hw]; (repeat (first | (with_reducible refine NewBox.alloc ?_ _) | (with_reducible refine NewBox.drew ?_) | ((with_reducible refine NewBox.setCell ?_ ?_ _); rotate_left 1; (first | omega | (simp; done) | (simp; omega))))); exact HXl0.out
    clear hxl0 hfl0 hkl0
    have hxl0 := HXl0.out.2.1
    have hfl0 := HXl0.out.2.2
    have hkl0 := HXl0.out.1
    replace HXr0 : Hid (NewBox w3 (w.heap.size + 1) [.slice none 0 0]) := by rw [Hid, hw]; (repeat (first | (with_reducible refine NewBox.alloc ?_ _) | (with_reducible refine NewBox.drew ?_) | ((with_reducible refine NewBox.setCell ?_ ?_ _); rotate_left 1; (first | omega | (simp; done) | (simp; omega))))); exact HXr0.out
    clear hxr0 hfr0 hkr0
    have hxr0 := HXr0.out.2.1
    have hfr0 := HXr0.out.2.2
    have hkr0 := HXr0.out.1
    clear hw
    refine (specEntryOk_c ⟨t, 0, ti, k, b⟩ _ (ent_fits ht ⟨by decide, by decide⟩ HI.out hk hb)).mono ?_
    rintro e w4 ⟨rfl, hb⟩
    have hzw4 : w3.heap.size ≤ w4.heap.size := hb.size
    have hzzw4 : w.heap.size ≤ w4.heap.size := by omega
    replace HB : Hid (Below w.heap.size w w4) := below_then HB.out hb HB.out.size
    replace HOA : Hid (Rd w4 (0) (w.heap.size) (A) (ents l)) := HOA.out.below hb
    replace HXl0 : Hid (NewBox w4 (w.heap.size) [.slice A n c]) := HXl0.out.below hb
    clear hxl0 hfl0 hkl0
    have hxl0 := HXl0.out.2.1
    have hfl0 := HXl0.out.2.2
    have hkl0 := HXl0.out.1
    replace HXr0 : Hid (NewBox w4 (w.heap.size + 1) [.slice none 0 0]) := HXr0.out.below hb
    clear hxr0 hfr0 hkr0
    have hxr0 := HXr0.out.2.1
    have hfr0 := HXr0.out.2.2
    have hkr0 := HXr0.out.1
    clear hb
    rw [hE.out]
    rcases h2 : partsOk ti k b with _ | _
    · have hc : Hid (addCode l t ti k b = 3) := by rw [Hid, addCode, H1.out, h2]; rfl
      clear h2
      go_wp2
      refine bodyPost_ret (v := .tuple #[.agg #[.slice none 0 0], .int .i64 0, .int .i64 3]) (by simp [results, Try.results95, go_sem, World.cell?_setCell_same _ _ _ (HXr0.out.cell (o := 0) rfl)]) rfl ?_
      exact ⟨none, 0, by rw [hc.out, (addL_no hc.out (by decide)).1, (addL_no hc.out (by decide)).2]; rfl, fun _ => rfl, by rw [(addL_no hc.out (by decide)).1]; exact Own.nil, (by ((repeat (first | refine Below.alloc ?_ (by first | omega | (simp; done) | (simp; omega)) _ | refine Below.drew ?_ | refine Below.setCell ?_ (by first | omega | (simp; done) | (simp; omega)) _)); exact HB.out))⟩
    · have H2 := Lib.hid h2
      clear h2
      rcases (show n = 512 ∨ n < 512 by omega) with h3 | h3
      · have hc : Hid (addCode l t ti k b = 4) := by rw [Hid, addCode, H1.out, H2.out, HN.out, h3]; rfl
        subst h3
        go_wp2
        refine bodyPost_ret (v := .tuple #[.agg #[.slice none 0 0], .int .i64 0, .int .i64 4]) (by simp [results, Try.results95, go_sem, World.cell?_setCell_same _ _ _ (HXr0.out.cell (o := 0) rfl)]) rfl ?_
        exact ⟨none, 0, by rw [hc.out, (addL_no hc.out (by decide)).1, (addL_no hc.out (by decide)).2]; rfl, fun _ => rfl, by rw [(addL_no hc.out (by decide)).1]; exact Own.nil, (by ((repeat (first | refine Below.alloc ?_ (by first | omega | (simp; done) | (simp; omega)) _ | refine Below.drew ?_ | refine Below.setCell ?_ (by first | omega | (simp; done) | (simp; omega)) _)); exact HB.out))⟩
      · have hc : Hid (addCode l t ti k b = 0) := by rw [Hid, addCode, H1.out, H2.out, HN.out]; simp; omega
        have hq : ((n : Int) == 512) = false := by rw [beq_eq_false_iff_ne]; omega
        go_wp2_with fail
        refine (l09Count_c A c _ _ n l t _ HOA.out HN.out (by omega)).mono ?_
        rintro e w5_ ⟨rfl, rfl⟩
        go_wp2_with fail
        refine wp_named (fun w6 hw => ?_)
        have hz6 : w4.heap.size + 1 ≤ w6.heap.size := by rw [hw]; first | omega | (simp [World.setCell]; done) | (simp [World.setCell]; omega)
        have hzz6 : w.heap.size ≤ w6.heap.size := by omega
        replace HB : Hid (Below w.heap.size w w6) := by rw [Hid, hw]; exact (by ((repeat (first | refine Below.alloc ?_ (by first | omega | (simp; done) | (simp; omega)) _ | refine Below.drew ?_ | refine Below.setCell ?_ (by first | omega | (simp; done) | (simp; omega)) _)); exact HB.out))
        replace HOA : Hid (Rd w6 (0) (w.heap.size) (A) (ents l)) := by rw [Hid, hw]; (repeat (first | (with_reducible refine Rd.alloc ?_ _) | (with_reducible refine Rd.drew ?_) | ((with_reducible refine Rd.setCell ?_ ?_ _); rotate_left 1; (first | omega | (simp; done) | (simp; omega))))); exact HOA.out
        replace HXl0 : Hid (NewBox w6 (w.heap.size) [.slice A n c]) := by rw [Hid, hw]; (repeat (first | (with_reducible refine NewBox.alloc ?_ _) | (with_reducible refine NewBox.drew ?_) | ((with_reducible refine NewBox.setCell ?_ ?_ _); rotate_left 1; (first | omega | (simp; done) | (simp; omega))))); exact HXl0.out
        clear hxl0 hfl0 hkl0
        have hxl0 := HXl0.out.2.1
        have hfl0 := HXl0.out.2.2
        have hkl0 := HXl0.out.1
        replace HXr0 : Hid (NewBox w6 (w.heap.size + 1) [.slice none 0 0]) := by rw [Hid, hw]; (repeat (first | (with_reducible refine NewBox.alloc ?_ _) | (with_reducible refine NewBox.drew ?_) | ((with_reducible refine NewBox.setCell ?_ ?_ _); rotate_left 1; (first | omega | (simp; done) | (simp; omega))))); exact HXr0.out
        clear hxr0 hfr0 hkr0
        have hxr0 := HXr0.out.2.1
        have hfr0 := HXr0.out.2.2
        have hkr0 := HXr0.out.1
        have HXe : Hid (NewBox w6 (w4.heap.size) [.string t, .int .i64 (cnt l t : Nat), .int .i64 ti, .string k, .string b]) := by rw [Hid, hw]; exact ⟨by first | omega | (simp [World.setCell]; done) | (simp [World.setCell]; omega), fun o => by rcases o with _ | _ | _ | _ | _ | o <;> go_simp, fun o => by go_simp⟩
        have hxe := HXe.out.2.1
        have hfe := HXe.out.2.2
        have hke := HXe.out.1
        clear hw
        obtain ⟨F, HF⟩ : ∃ F : Facts, Hid (F = fun iq xq tqs dsq uq => match iq with
          | 0 => xq.v = .slice (some ⟨xq.s, 0, none⟩) 0 0 ∧ RowIn (inG xq []) uq 98 5 (.slice (some ⟨xq.s, 0, none⟩) 0 0) 0 []
          | 1 => xq.v = .pointer (some ⟨(w.heap.size), 0, none⟩)
          | 2 => xq.v = .slice A n c
          | 3 => (match tqs, dsq with | [tq0], [] => ∃ (A3 : Option Addr) (c3 : Nat), xq.v = .slice A3 n c3 ∧ RowIn (inG xq [tq0]) uq 98 5 (.slice A3 n c3) (n) (ents l) | _, _ => False)
          | 4 => xq.v = .agg #[.string t, .int .i64 (cnt l t : Nat), .int .i64 ti, .string k, .string b]
          | 5 => xq.v = .slice (some ⟨xq.s, 0, none⟩) 1 1 ∧ xq.s < xq.e ∧ NewBox uq xq.s (ents [(newEnt l t ti k b)])
          | 6 => (match tqs, dsq with | [tq0, tq1], [] => ∃ (A4 : Option Addr) (c4 : Nat), xq.v = .slice A4 (n + 1) c4 ∧ RowIn (inG xq [tq0, tq1]) uq 98 5 (.slice A4 (n + 1) c4) ((n + 1)) ((ents l ++ ents [newEnt l t ti k b])) | _, _ => False)
          | 7 => (match tqs, dsq with | [], [yq] => ∃ (A4 : Option Addr) (c4 : Nat), yq.v = .slice A4 (n + 1) c4 ∧ xq.v = .agg #[.slice A4 (n + 1) c4] | _, _ => False)
          | 8 => xq.v = .pointer (some ⟨(w.heap.size), 0, none⟩)
          | 9 => xq.v = .slice A n c
          | 10 => xq.v = .int .i64 (n : Nat)
          | 11 => (match tqs, dsq with | [], [yq] => ∃ (A4 : Option Addr) (c4 : Nat), yq.v = .slice A4 (n + 1) c4 ∧ NewBox uq (w.heap.size + 1) [.slice A4 (n + 1) c4] | _, _ => False)
          | 12 => xq.v = .int .i64 (n : Nat)
          | 13 => xq.v = .int .i64 0
          | _ => False) := ⟨_, rfl⟩
        refine wp_region_facts [[], [], [], [], [], [], [], [6], [], [], [], [6], [], []] [[], [], [], [0], [], [], [3, 0], [], [], [], [], [], [], []] [some 40, some 41, some 42, some 43, some 44, some 45, some 46, some 47, some 48, some 49, some 50, none, some 11, some 12] (some 11) (w.heap.size + 1) (w.heap.size + 1 + 1) (.inr (by omega)) F (by kernel_rfl) (by kernel_rfl) (by kernel_rfl) ?_ ⟨?_, ?_, ?_, ?_, ?_, ?_, ?_, ?_, ?_, ?_, ?_, ?_, ?_, ?_, trivial⟩ ?_
        · rw [HF.out]; intro iq xq tqs dsq uq u' hi hf hs hW hx hbk
          have kx : ∀ b, xq.s ≤ b → b < xq.e → u'.heap[b]? = uq.heap[b]? := fun b h1 h2 => hbk b (.inr (.inl ⟨h1, h2⟩))
          have kt : ∀ t ∈ tqs, ∀ b, t.s ≤ b → b < t.e → u'.heap[b]? = uq.heap[b]? := fun t ht b h1 h2 => hbk b (.inr (.inr ⟨t, ht, h1, h2⟩))
          match iq with
          | 0 => exact ⟨hf.1, hf.2.keep (fun k hk => hk.elim (fun h => kx k h.1 h.2) (fun ⟨t, ht, _⟩ => by cases ht))⟩
          | 1 => exact hf
          | 2 => exact hf
          | 3 => match tqs, dsq, hf with | [tq0], [], hf => obtain ⟨A3, c3, hv, p0⟩ := hf; exact ⟨A3, c3, hv, p0.keep (fun k hk => hk.elim (fun h => kx k h.1 h.2) (fun ⟨t, ht, h⟩ => kt t ht k h.1 h.2))⟩
          | 4 => exact hf
          | 5 => obtain ⟨h1, h2, hb⟩ := hf; exact ⟨h1, h2, hb.keep hs (kx _ (Nat.le_refl _) h2)⟩
          | 6 => match tqs, dsq, hf with | [tq0, tq1], [], hf => obtain ⟨A4, c4, hv, p0⟩ := hf; exact ⟨A4, c4, hv, p0.keep (fun k hk => hk.elim (fun h => kx k h.1 h.2) (fun ⟨t, ht, h⟩ => kt t ht k h.1 h.2))⟩
          | 7 => exact hf
          | 8 => exact hf
          | 9 => exact hf
          | 10 => exact hf
          | 11 => match tqs, dsq, hf with | [], [yq], hf => obtain ⟨A4, c4, hv, hb⟩ := hf; exact ⟨A4, c4, hv, hb.keep hs (hbk _ (.inl ⟨hkr0, .inr (.inr rfl)⟩))⟩
          | 12 => exact hf
          | 13 => exact hf
        · intro gh ρ u hc hf1 hg1 hd h0 hb he ha hF
          first | (replace hb : Below w6.heap.size w6 u := hb.drew.below (by decide +kernel)) | (replace hb : Only (w.heap.size + 1) (w.heap.size + 1 + 1) w6 u := hb.drew.only)
          have hbz : w6.heap.size ≤ u.heap.size := hb.size
          clear  hd h0 he ha hF
          go_simp
          rw [HF.out]
          exact ⟨OnlyL.of_below ((Below.refl _ _).alloc (Nat.le_refl _) _), rfl, RowIn.made _ _ _ _ (.inl ⟨Nat.le_refl _, by simp⟩)⟩
        · intro gh ρ u hc hf1 hg1 hd h0 hb he ha hF
          first | (replace hb : Below w6.heap.size w6 u := hb.drew.below (by decide +kernel)) | (replace hb : Only (w.heap.size + 1) (w.heap.size + 1 + 1) w6 u := hb.drew.only)
          have hbz : w6.heap.size ≤ u.heap.size := hb.size
          have r5 : ρ (.tmp 5) = .pointer (some ⟨w.heap.size, 0, none⟩) := (h0 5 (by decide +kernel)).trans rfl
          clear  hd h0 he ha hF
          go_simp
          rw [HF.out]
          exact ⟨OnlyL.refl _ _, rfl⟩
        · intro gh ρ u hc hf1 hg1 hd h0 hb he ha hF
          first | (replace hb : Below w6.heap.size w6 u := hb.drew.below (by decide +kernel)) | (replace hb : Only (w.heap.size + 1) (w.heap.size + 1 + 1) w6 u := hb.drew.only)
          have hbz : w6.heap.size ≤ u.heap.size := hb.size
          have f1 : (gh 1).v = .pointer (some ⟨(w.heap.size), 0, none⟩) := by have h := hF 1 (by decide +kernel) (by decide +kernel); rw [HF.out] at h; exact h
          have hv1 := f1
          have r41 : ρ (.tmp 41) = .pointer (some ⟨(w.heap.size), 0, none⟩) := (hd 1 (by decide +kernel) 41 (by kernel_rfl)).trans hv1
          have q_l0 : ∀ o, u.cell? ⟨w.heap.size, o, none⟩ = [.slice A n c][o]? := by first | exact (HXl0.out.below hb).2.1 | exact (HXl0.out.only hb (by omega)).2.1
          have k_l0 : w.heap.size < u.heap.size := by have := HXl0.out.1; omega
          have q_e : ∀ o, u.cell? ⟨w4.heap.size, o, none⟩ = [.string t, .int .i64 (cnt l t : Nat), .int .i64 ti, .string k, .string b][o]? := by first | exact (HXe.out.below hb).2.1 | exact (HXe.out.only hb (by omega)).2.1
          have k_e : w4.heap.size < u.heap.size := by have := HXe.out.1; omega
          clear f1 hv1 hd h0 he ha hF
          go_simp
          rw [HF.out]
          exact ⟨OnlyL.refl _ _, rfl⟩
        · intro gh ρ u hc hf1 hg1 hd h0 hb he ha hF
          first | (replace hb : Below w6.heap.size w6 u := hb.drew.below (by decide +kernel)) | (replace hb : Only (w.heap.size + 1) (w.heap.size + 1 + 1) w6 u := hb.drew.only)
          have hbz : w6.heap.size ≤ u.heap.size := hb.size
          have f0 : (gh 0).v = .slice (some ⟨(gh 0).s, 0, none⟩) 0 0 ∧ RowIn (inG (gh 0) []) u 98 5 (.slice (some ⟨(gh 0).s, 0, none⟩) 0 0) 0 [] := by have h := hF 0 (by decide +kernel) (by decide +kernel); rw [HF.out] at h; exact h
          obtain ⟨hv0, hrow0⟩ := f0
          have r40 : ρ (.tmp 40) = .slice (some ⟨(gh 0).s, 0, none⟩) 0 0 := (hd 0 (by decide +kernel) 40 (by kernel_rfl)).trans hv0
          have f2 : (gh 2).v = .slice A n c := by have h := hF 2 (by decide +kernel) (by decide +kernel); rw [HF.out] at h; exact h
          have hv2 := f2
          have r42 : ρ (.tmp 42) = .slice A n c := (hd 2 (by decide +kernel) 42 (by kernel_rfl)).trans hv2
          clear hv0 f2 hv2 hd h0 he ha hF
          refine gappEnt _ _ rfl _ (0) ([]) r40 hrow0 A n c _ _ l r42 HN.out (HOA.out.below hb) hA (by omega) ?_
          intro A' c' u' hrow hlt hg
          rw [HF.out]
          have hS : ∀ k, inG (gh 0) [] k → ∃ z ∈ ([0] : List Nat), (gh z).s ≤ k ∧ k < (gh z).e := by
            rintro k (h | ⟨t, ht, h⟩)
            · exact ⟨0, by decide, h⟩
            · cases ht
          refine ⟨⟨hg.os, hg.tape, hg.output, hg.size, fun k hk hd' _ => hg.block k hk (fun e => ?_)⟩, A', c', by rw [Nat.zero_add], ?_⟩
          · obtain ⟨z, hz, h1, h2⟩ := hS k (hrow0.at_ k e.symm); have := hd' (gh z) (List.mem_map.2 ⟨z, hz, rfl⟩); omega
          · rw [Nat.zero_add, List.nil_append] at hrow; rw [Nat.zero_add] at hlt; exact RowIn.widen hrow (fun k hk => .inr (let ⟨z, hz, h⟩ := hS k hk; ⟨gh z, List.mem_map.2 ⟨z, hz, rfl⟩, h⟩)) (fun e => .inl ⟨Nat.le_refl _, hlt _ e⟩)
        · intro gh ρ u hc hf1 hg1 hd h0 hb he ha hF
          first | (replace hb : Below w6.heap.size w6 u := hb.drew.below (by decide +kernel)) | (replace hb : Only (w.heap.size + 1) (w.heap.size + 1 + 1) w6 u := hb.drew.only)
          have hbz : w6.heap.size ≤ u.heap.size := hb.size
          have r13 : ρ (.tmp 13) = .pointer (some ⟨w4.heap.size, 0, none⟩) := (h0 13 (by decide +kernel)).trans rfl
          have q_l0 : ∀ o, u.cell? ⟨w.heap.size, o, none⟩ = [.slice A n c][o]? := by first | exact (HXl0.out.below hb).2.1 | exact (HXl0.out.only hb (by omega)).2.1
          have k_l0 : w.heap.size < u.heap.size := by have := HXl0.out.1; omega
          have q_e : ∀ o, u.cell? ⟨w4.heap.size, o, none⟩ = [.string t, .int .i64 (cnt l t : Nat), .int .i64 ti, .string k, .string b][o]? := by first | exact (HXe.out.below hb).2.1 | exact (HXe.out.only hb (by omega)).2.1
          have k_e : w4.heap.size < u.heap.size := by have := HXe.out.1; omega
          clear  hd h0 he ha hF
          go_simp
          rw [HF.out]
          exact ⟨OnlyL.refl _ _, rfl⟩
        · intro gh ρ u hc hf1 hg1 hd h0 hb he ha hF
          first | (replace hb : Below w6.heap.size w6 u := hb.drew.below (by decide +kernel)) | (replace hb : Only (w.heap.size + 1) (w.heap.size + 1 + 1) w6 u := hb.drew.only)
          have hbz : w6.heap.size ≤ u.heap.size := hb.size
          have f4 : (gh 4).v = .agg #[.string t, .int .i64 (cnt l t : Nat), .int .i64 ti, .string k, .string b] := by have h := hF 4 (by decide +kernel) (by decide +kernel); rw [HF.out] at h; exact h
          have hv4 := f4
          have r44 : ρ (.tmp 44) = .agg #[.string t, .int .i64 (cnt l t : Nat), .int .i64 ti, .string k, .string b] := (hd 4 (by decide +kernel) 44 (by kernel_rfl)).trans hv4
          clear f4 hv4 hd h0 he ha hF
          go_simp
          rw [HF.out]
          exact ⟨OnlyL.of_below ((Below.refl _ _).alloc (Nat.le_refl _) _), rfl, by simp, NewBox.new _ _ _⟩
        · intro gh ρ u hc hf1 hg1 hd h0 hb he ha hF
          first | (replace hb : Below w6.heap.size w6 u := hb.drew.below (by decide +kernel)) | (replace hb : Only (w.heap.size + 1) (w.heap.size + 1 + 1) w6 u := hb.drew.only)
          have hbz : w6.heap.size ≤ u.heap.size := hb.size
          have f3 : ∃ (A3 : Option Addr) (c3 : Nat), (gh 3).v = .slice A3 n c3 ∧ RowIn (inG (gh 3) [(gh 0)]) u 98 5 (.slice A3 n c3) (n) (ents l) := by have h := hF 3 (by decide +kernel) (by decide +kernel); rw [HF.out] at h; exact h
          obtain ⟨A3, c3, hv3, hrow3⟩ := f3
          have r43 : ρ (.tmp 43) = .slice A3 n c3 := (hd 3 (by decide +kernel) 43 (by kernel_rfl)).trans hv3
          have f5 : (gh 5).v = .slice (some ⟨(gh 5).s, 0, none⟩) 1 1 ∧ (gh 5).s < (gh 5).e ∧ NewBox u (gh 5).s (ents [(newEnt l t ti k b)]) := by have h := hF 5 (by decide +kernel) (by decide +kernel); rw [HF.out] at h; exact h
          obtain ⟨hv5, hlt5, hnb5⟩ := f5
          have r45 : ρ (.tmp 45) = .slice (some ⟨(gh 5).s, 0, none⟩) 1 1 := (hd 5 (by decide +kernel) 45 (by kernel_rfl)).trans hv5
          clear hv3 hv5 hd h0 he ha hF
          refine gapp1Ent _ _ rfl _ (n) (ents l) r43 hrow3 _ (newEnt l t ti k b) r45 hnb5 (by omega) ?_
          intro A' c' u' hrow hlt hg
          rw [HF.out]
          have hS : ∀ k, inG (gh 3) [gh 0] k → ∃ z ∈ ([3, 0] : List Nat), (gh z).s ≤ k ∧ k < (gh z).e := by
            rintro k (h | ⟨t, ht, h⟩)
            · exact ⟨3, by decide, h⟩
            · simp only [List.mem_cons, List.not_mem_nil, or_false] at ht
              rcases ht with rfl
              · exact ⟨0, by decide, h⟩
          refine ⟨⟨hg.os, hg.tape, hg.output, hg.size, fun k hk hd' _ => hg.block k hk (fun e => ?_)⟩, A', c', rfl, ?_⟩
          · obtain ⟨z, hz, h1, h2⟩ := hS k (hrow3.at_ k e.symm); have := hd' (gh z) (List.mem_map.2 ⟨z, hz, rfl⟩); omega
          · exact RowIn.widen hrow (fun k hk => .inr (let ⟨z, hz, h⟩ := hS k hk; ⟨gh z, List.mem_map.2 ⟨z, hz, rfl⟩, h⟩)) (fun e => .inl ⟨Nat.le_refl _, hlt _ e⟩)
        · intro gh ρ u hc hf1 hg1 hd h0 hb he ha hF
          first | (replace hb : Below w6.heap.size w6 u := hb.drew.below (by decide +kernel)) | (replace hb : Only (w.heap.size + 1) (w.heap.size + 1 + 1) w6 u := hb.drew.only)
          have hbz : w6.heap.size ≤ u.heap.size := hb.size
          have f6 : ∃ (A4 : Option Addr) (c4 : Nat), (gh 6).v = .slice A4 (n + 1) c4 ∧ RowIn (inG (gh 6) [(gh 3), (gh 0)]) u 98 5 (.slice A4 (n + 1) c4) ((n + 1)) ((ents l ++ ents [newEnt l t ti k b])) := by have h := hF 6 (by decide +kernel) (by decide +kernel); rw [HF.out] at h; exact h
          obtain ⟨A4, c4, hv6, hrow6⟩ := f6
          have hrt := hv6
          have r46 : ρ (.tmp 46) = .slice A4 (n + 1) c4 := (hd 6 (by decide +kernel) 46 (by kernel_rfl)).trans hv6
          have HRT := Lib.hid hrt
          clear hv6 hrt hd h0 he ha hF
          go_simp
          rw [HF.out]
          exact ⟨OnlyL.refl _ _, A4, c4, HRT.out, rfl⟩
        · intro gh ρ u hc hf1 hg1 hd h0 hb he ha hF
          first | (replace hb : Below w6.heap.size w6 u := hb.drew.below (by decide +kernel)) | (replace hb : Only (w.heap.size + 1) (w.heap.size + 1 + 1) w6 u := hb.drew.only)
          have hbz : w6.heap.size ≤ u.heap.size := hb.size
          have r5 : ρ (.tmp 5) = .pointer (some ⟨w.heap.size, 0, none⟩) := (h0 5 (by decide +kernel)).trans rfl
          clear  hd h0 he ha hF
          go_simp
          rw [HF.out]
          exact ⟨OnlyL.refl _ _, rfl⟩
        · intro gh ρ u hc hf1 hg1 hd h0 hb he ha hF
          first | (replace hb : Below w6.heap.size w6 u := hb.drew.below (by decide +kernel)) | (replace hb : Only (w.heap.size + 1) (w.heap.size + 1 + 1) w6 u := hb.drew.only)
          have hbz : w6.heap.size ≤ u.heap.size := hb.size
          have f8 : (gh 8).v = .pointer (some ⟨(w.heap.size), 0, none⟩) := by have h := hF 8 (by decide +kernel) (by decide +kernel); rw [HF.out] at h; exact h
          have hv8 := f8
          have r48 : ρ (.tmp 48) = .pointer (some ⟨(w.heap.size), 0, none⟩) := (hd 8 (by decide +kernel) 48 (by kernel_rfl)).trans hv8
          have q_l0 : ∀ o, u.cell? ⟨w.heap.size, o, none⟩ = [.slice A n c][o]? := by first | exact (HXl0.out.below hb).2.1 | exact (HXl0.out.only hb (by omega)).2.1
          have k_l0 : w.heap.size < u.heap.size := by have := HXl0.out.1; omega
          have q_e : ∀ o, u.cell? ⟨w4.heap.size, o, none⟩ = [.string t, .int .i64 (cnt l t : Nat), .int .i64 ti, .string k, .string b][o]? := by first | exact (HXe.out.below hb).2.1 | exact (HXe.out.only hb (by omega)).2.1
          have k_e : w4.heap.size < u.heap.size := by have := HXe.out.1; omega
          clear f8 hv8 hd h0 he ha hF
          go_simp
          rw [HF.out]
          exact ⟨OnlyL.refl _ _, rfl⟩
        · intro gh ρ u hc hf1 hg1 hd h0 hb he ha hF
          first | (replace hb : Below w6.heap.size w6 u := hb.drew.below (by decide +kernel)) | (replace hb : Only (w.heap.size + 1) (w.heap.size + 1 + 1) w6 u := hb.drew.only)
          have hbz : w6.heap.size ≤ u.heap.size := hb.size
          have f9 : (gh 9).v = .slice A n c := by have h := hF 9 (by decide +kernel) (by decide +kernel); rw [HF.out] at h; exact h
          have hv9 := f9
          have r49 : ρ (.tmp 49) = .slice A n c := (hd 9 (by decide +kernel) 49 (by kernel_rfl)).trans hv9
          clear f9 hv9 hd h0 he ha hF
          go_simp
          rw [HF.out]
          exact ⟨OnlyL.refl _ _, rfl⟩
        · intro gh ρ u hc hf1 hg1 hd h0 hb he ha hF
          first | (replace hb : Below w6.heap.size w6 u := hb.drew.below (by decide +kernel)) | (replace hb : Only (w.heap.size + 1) (w.heap.size + 1 + 1) w6 u := hb.drew.only)
          have hbz : w6.heap.size ≤ u.heap.size := hb.size
          have r10 : ρ (.tmp 10) = .pointer (some ⟨w.heap.size + 1, 0, none⟩) := (h0 10 (by decide +kernel)).trans rfl
          have f7 : ∃ (A4 : Option Addr) (c4 : Nat), (gh 6).v = .slice A4 (n + 1) c4 ∧ (gh 7).v = .agg #[.slice A4 (n + 1) c4] := by have h := hF 7 (by decide +kernel) (by decide +kernel); rw [HF.out] at h; exact h
          obtain ⟨A4, c4, hrt, hv7⟩ := f7
          have r47 : ρ (.tmp 47) = .agg #[.slice A4 (n + 1) c4] := (hd 7 (by decide +kernel) 47 (by kernel_rfl)).trans hv7
          have HRT := Lib.hid hrt
          obtain ⟨hzk, hzc, hzf⟩ := HXr0.out.below hb
          clear hv7 hrt hd h0 he ha hF
          go_simp
          rw [HF.out]
          refine ⟨?_, A4, c4, HRT.out, ?_⟩
          · refine OnlyL.of_z (lo := w.heap.size + 1) (hi := w.heap.size + 1 + 1) ?_ rfl; refine Only.setCell ?_ (by exact Nat.le_refl _) (by exact Nat.lt_succ_self _) _; exact Only.refl _ _ _
          · show NewBox _ (w.heap.size + 1) _
            exact ⟨by simpa [World.setCell] using hzk, fun o => by rcases o with _ | o <;> go_simp, fun o => by go_simp⟩
        · intro gh ρ u hc hf1 hg1 hd h0 hb he ha hF
          first | (replace hb : Below w6.heap.size w6 u := hb.drew.below (by decide +kernel)) | (replace hb : Only (w.heap.size + 1) (w.heap.size + 1 + 1) w6 u := hb.drew.only)
          have hbz : w6.heap.size ≤ u.heap.size := hb.size
          have f10 : (gh 10).v = .int .i64 (n : Nat) := by have h := hF 10 (by decide +kernel) (by decide +kernel); rw [HF.out] at h; exact h
          have hv10 := f10
          have r50 : ρ (.tmp 50) = .int .i64 (n : Nat) := (hd 10 (by decide +kernel) 50 (by kernel_rfl)).trans hv10
          clear f10 hv10 hd h0 he ha hF
          go_simp
          rw [HF.out]
          exact ⟨OnlyL.refl _ _, rfl⟩
        · intro gh ρ u hc hf1 hg1 hd h0 hb he ha hF
          first | (replace hb : Below w6.heap.size w6 u := hb.drew.below (by decide +kernel)) | (replace hb : Only (w.heap.size + 1) (w.heap.size + 1 + 1) w6 u := hb.drew.only)
          have hbz : w6.heap.size ≤ u.heap.size := hb.size
          clear  hd h0 he ha hF
          go_simp
          rw [HF.out]
          exact ⟨OnlyL.refl _ _, rfl⟩
        intro gh w7 hB hE hA hF
        replace hB : Only (w.heap.size + 1) (w.heap.size + 1 + 1) w6 w7 := hB.only
        have f1 : (gh 1).v = .pointer (some ⟨(w.heap.size), 0, none⟩) := by have h := hF 1 (by decide +kernel) (by decide +kernel); rw [HF.out] at h; exact h
        have f2 : (gh 2).v = .slice A n c := by have h := hF 2 (by decide +kernel) (by decide +kernel); rw [HF.out] at h; exact h
        have f4 : (gh 4).v = .agg #[.string t, .int .i64 (cnt l t : Nat), .int .i64 ti, .string k, .string b] := by have h := hF 4 (by decide +kernel) (by decide +kernel); rw [HF.out] at h; exact h
        have f5 : (gh 5).v = .slice (some ⟨(gh 5).s, 0, none⟩) 1 1 ∧ (gh 5).s < (gh 5).e ∧ NewBox w7 (gh 5).s (ents [(newEnt l t ti k b)]) := by have h := hF 5 (by decide +kernel) (by decide +kernel); rw [HF.out] at h; exact h
        have f6 : ∃ (A4 : Option Addr) (c4 : Nat), (gh 6).v = .slice A4 (n + 1) c4 ∧ RowIn (inG (gh 6) [(gh 3), (gh 0)]) w7 98 5 (.slice A4 (n + 1) c4) ((n + 1)) ((ents l ++ ents [newEnt l t ti k b])) := by have h := hF 6 (by decide +kernel) (by decide +kernel); rw [HF.out] at h; exact h
        have f7 : ∃ (A4 : Option Addr) (c4 : Nat), (gh 6).v = .slice A4 (n + 1) c4 ∧ (gh 7).v = .agg #[.slice A4 (n + 1) c4] := by have h := hF 7 (by decide +kernel) (by decide +kernel); rw [HF.out] at h; exact h
        have f8 : (gh 8).v = .pointer (some ⟨(w.heap.size), 0, none⟩) := by have h := hF 8 (by decide +kernel) (by decide +kernel); rw [HF.out] at h; exact h
        have f9 : (gh 9).v = .slice A n c := by have h := hF 9 (by decide +kernel) (by decide +kernel); rw [HF.out] at h; exact h
        have f10 : (gh 10).v = .int .i64 (n : Nat) := by have h := hF 10 (by decide +kernel) (by decide +kernel); rw [HF.out] at h; exact h
        have f11 : ∃ (A4 : Option Addr) (c4 : Nat), (gh 6).v = .slice A4 (n + 1) c4 ∧ NewBox w7 (w.heap.size + 1) [.slice A4 (n + 1) c4] := by have h := hF 11 (by decide +kernel) (by decide +kernel); rw [HF.out] at h; exact h
        have f12 : (gh 12).v = .int .i64 (n : Nat) := by have h := hF 12 (by decide +kernel) (by decide +kernel); rw [HF.out] at h; exact h
        have f13 : (gh 13).v = .int .i64 0 := by have h := hF 13 (by decide +kernel) (by decide +kernel); rw [HF.out] at h; exact h
        obtain ⟨A4, c4, hv6, hrow6⟩ := f6
        have hv1 := f1
        have hv2 := f2
        have hv4 := f4
        obtain ⟨hv5, -⟩ := f5
        obtain ⟨A4_7, c4_7, hu, hv7⟩ := f7
        replace hu := hv6.symm.trans hu
        simp at hu
        obtain ⟨rfl, rfl⟩ := hu
        have hv8 := f8
        have hv9 := f9
        have hv10 := f10
        obtain ⟨A4_11, c4_11, hu, hx11⟩ := f11
        replace hu := hv6.symm.trans hu
        simp at hu
        obtain ⟨rfl, rfl⟩ := hu
        have hv12 := f12
        have hv13 := f13
        obtain ⟨hs0, hse0, he0⟩ := hE 0 (by decide +kernel)
        obtain ⟨hs3, hse3, he3⟩ := hE 3 (by decide +kernel)
        obtain ⟨hs6, hse6, he6⟩ := hE 6 (by decide +kernel)
        have hdj7_0_3 := hA 0 (by decide +kernel) 3 (by decide +kernel) (by decide)
        have hdj7_0_6 := hA 0 (by decide +kernel) 6 (by decide +kernel) (by decide)
        have hdj7_3_6 := hA 3 (by decide +kernel) 6 (by decide +kernel) (by decide)
        change w6.heap.size ≤ _ at hs0 hs3 hs6
        have hS : ∀ k, inG (gh 6) [gh 3, gh 0] k → w6.heap.size ≤ k ∧ k < w7.heap.size := by
          rintro k (h | ⟨t, ht, h⟩)
          · omega
          · simp only [List.mem_cons, List.not_mem_nil, or_false] at ht
            rcases ht with rfl | rfl <;> omega
        have hrwr := hrow6.row
        obtain ⟨hrcr, hrnr, hror⟩ := hrow6.own hS (Nat.le_refl _)
        clear hS hrow6
        clear hE hA hF
        generalize (gh 0).v = vq0 at *
        generalize (gh 3).v = vq3 at *
        simp only [putDs, Nat.reduceAdd, hv1, hv2, hv4, hv5, hv6, hv7, hv8, hv9, hv10, hv12, hv13]
        clear hv1 hv2 hv4 hv5 hv6 hv7 hv8 hv9 hv10 hv12 hv13
        generalize (gh 0).s = s7_0 at *
        generalize (gh 0).e = e7_0 at *
        generalize (gh 3).s = s7_3 at *
        generalize (gh 3).e = e7_3 at *
        generalize (gh 6).s = s7_6 at *
        generalize (gh 6).e = e7_6 at *
        clear HF
        have hb := hB
        clear hB
        have hzw7 : w6.heap.size ≤ w7.heap.size := hb.size
        have hzzw7 : w.heap.size ≤ w7.heap.size := by omega
        replace HB : Hid (Below w.heap.size w w7) := below_only HB.out hb (by omega) HB.out.size
        replace HOA : Hid (Rd w7 (0) (w.heap.size) (A) (ents l)) := HOA.out.only hb (by first | omega | (simp; omega))
        replace HXl0 : Hid (NewBox w7 (w.heap.size) [.slice A n c]) := HXl0.out.only hb (by first | omega | (simp; omega))
        clear hxl0 hfl0 hkl0
        have hxl0 := HXl0.out.2.1
        have hfl0 := HXl0.out.2.2
        have hkl0 := HXl0.out.1
        clear hxr0 hfr0 hkr0 HXr0
        replace HXe : Hid (NewBox w7 (w4.heap.size) [.string t, .int .i64 (cnt l t : Nat), .int .i64 ti, .string k, .string b]) := HXe.out.only hb (by first | omega | (simp; omega))
        clear hxe hfe hke
        have hxe := HXe.out.2.1
        have hfe := HXe.out.2.2
        have hke := HXe.out.1
        clear hb
        have HXr0 : Hid (NewBox w7 (w.heap.size + 1) [.slice A4 (n + 1) c4]) := hx11
        have hxr0 := HXr0.out.2.1
        have hfr0 := HXr0.out.2.2
        have hkr0 := HXr0.out.1
        clear hx11
        have ey := addL_yes hc.out
        have el : Hid ((addL l t ti k b).length = n + 1) := by rw [Hid, ey.1, List.length_append, HN.out]; rfl
        have el2 : Hid (ents (addL l t ti k b) = ents l ++ ents [newEnt l t ti k b]) := by rw [Hid, ey.1, ents_app]
        have ef : Hid (addLeaf l t ti k b = (n : Nat)) := by rw [Hid, ey.2, HN.out]
        have HRO := Lib.hid hror
        have HRN := Lib.hid hrnr
        clear ey hror hrnr hrwr hrcr
        go_wp2
        refine bodyPost_ret (v := .tuple #[.agg #[.slice A4 (n + 1) c4], .int .i64 n, .int .i64 0]) (by simp [results, Try.results95, go_sem, hxr0]) rfl ?_
        exact ⟨A4, c4, by rw [el.out, ef.out, hc.out], HRN.out, by rw [el2.out]; exact HRO.out.mono (by omega) (Nat.le_refl _) (Nat.le_refl _), (by ((repeat (first | refine Below.alloc ?_ (by first | omega | (simp; done) | (simp; omega)) _ | refine Below.drew ?_ | refine Below.setCell ?_ (by first | omega | (simp; done) | (simp; omega)) _)); exact HB.out))⟩

def addEL (l : List Ent) (t : ByteArray) (ti : Int) (k b : ByteArray) : List Ent := if logOk l then addL l t ti k b else []
def addELeaf (l : List Ent) (t : ByteArray) (ti : Int) (k b : ByteArray) : Int := if logOk l then addLeaf l t ti k b else 0
def addECode (l : List Ent) (t : ByteArray) (ti : Int) (k b : ByteArray) : Int := if logOk l then addCode l t ti k b else 1

set_option maxRecDepth 100000 in
set_option maxHeartbeats 400000 in
theorem specAddEntry_c (A : Option Addr) (c lo hi n : Nat) (l : List Ent) (t : ByteArray) (ti : Int) (k b : ByteArray) (w : World) (hr : Rd w lo hi A (ents l)) (hn : l.length = n) (hl : n ≤ 1048576) (hcap : n ≤ c) (hA : A = none → c = 0)
    (hf : ∀ x ∈ l, x.fits) (ht : t.size ≤ 1048576) (hti : I64 ti) (hk : k.size ≤ 1048576) (hb : b.size ≤ 1048576) :
    Calls Try.prog 60 #[.agg #[.slice A n c], .string t, .int .i64 ti, .string k, .string b] w fun e w' => ∃ (A' : Option Addr) (c' : Nat), e = .returned (.tuple #[.agg #[.slice A' (addEL l t ti k b).length c'], .int .i64 (addELeaf l t ti k b), .int .i64 (addECode l t ti k b)]) ∧
      Own w' w.heap.size w'.heap.size A' (ents (addEL l t ti k b)) ∧ Below w.heap.size w w' := by
  have HN := Lib.hid hn
  have HI := Lib.hid hti
  have HF := Lib.hid hf
  clear hn hti hf
  go_enter Try.func60, Try.ntmps60
  have HB : Hid (Below w.heap.size w w) := Below.refl _ _
  have HOA : Hid (Rd w (0) (w.heap.size) (A) (ents l)) := Rd.base hr
  clear hr
  go_wp2_with fail
  refine calls_named (fun w1 hw => ?_)
  have hz1 : w.heap.size + 2 ≤ w1.heap.size := by rw [hw]; first | omega | (simp [World.setCell]; done) | (simp [World.setCell]; omega)
  have hzz1 : w.heap.size ≤ w1.heap.size := by omega
  replace HB : Hid (Below w.heap.size w w1) := by rw [Hid, hw]; exact (by ((repeat (first | refine Below.alloc ?_ (by first | omega | (simp; done) | (simp; omega)) _ | refine Below.drew ?_ | refine Below.setCell ?_ (by first | omega | (simp; done) | (simp; omega)) _)); exact HB.out))
  replace HOA : Hid (Rd w1 (0) (w.heap.size) (A) (ents l)) := by rw [Hid, hw]; (repeat (first | (with_reducible refine Rd.alloc ?_ _) | (with_reducible refine Rd.drew ?_) | ((with_reducible refine Rd.setCell ?_ ?_ _); rotate_left 1; (first | omega | (simp; done) | (simp; omega))))); exact HOA.out
  have HXl0 : Hid (NewBox w1 (w.heap.size) [.slice A n c]) := by rw [Hid, hw]; exact ⟨by first | omega | (simp [World.setCell]; done) | (simp [World.setCell]; omega), fun o => by rcases o with _ | o <;> go_simp, fun o => by go_simp⟩
  have hxl0 := HXl0.out.2.1
  have hfl0 := HXl0.out.2.2
  have hkl0 := HXl0.out.1
  have HXr0 : Hid (NewBox w1 (w.heap.size + 1) [.slice none 0 0]) := by rw [Hid, hw]; exact ⟨by first | omega | (simp [World.setCell]; done) | (simp [World.setCell]; omega), fun o => by rcases o with _ | o <;> go_simp, fun o => by go_simp⟩
  have hxr0 := HXr0.out.2.1
  have hfr0 := HXr0.out.2.2
  have hkr0 := HXr0.out.1
  clear hw
  refine (specLogOk_c A c _ _ n l _ HOA.out HN.out hl hcap HF.out).mono ?_
  rintro e w2 ⟨rfl, hb⟩
  have hzw2 : w1.heap.size ≤ w2.heap.size := hb.size
  have hzzw2 : w.heap.size ≤ w2.heap.size := by omega
  replace HB : Hid (Below w.heap.size w w2) := below_then HB.out hb HB.out.size
  replace HOA : Hid (Rd w2 (0) (w.heap.size) (A) (ents l)) := HOA.out.below hb
  replace HXl0 : Hid (NewBox w2 (w.heap.size) [.slice A n c]) := HXl0.out.below hb
  clear hxl0 hfl0 hkl0
  have hxl0 := HXl0.out.2.1
  have hfl0 := HXl0.out.2.2
  have hkl0 := HXl0.out.1
  replace HXr0 : Hid (NewBox w2 (w.heap.size + 1) [.slice none 0 0]) := HXr0.out.below hb
  clear hxr0 hfr0 hkr0
  have hxr0 := HXr0.out.2.1
  have hfr0 := HXr0.out.2.2
  have hkr0 := HXr0.out.1
  clear hb
  rcases h1 : logOk l with _ | _
  · have e1 : Hid (addEL l t ti k b = []) := by rw [Hid, addEL, h1]; rfl
    have e2 : Hid (addELeaf l t ti k b = 0) := by rw [Hid, addELeaf, h1]; rfl
    have e3 : Hid (addECode l t ti k b = 1) := by rw [Hid, addECode, h1]; rfl
    clear h1
    go_wp2
    refine bodyPost_ret (v := .tuple #[.agg #[.slice none 0 0], .int .i64 0, .int .i64 1]) (by simp [results, Try.results60, go_sem, World.cell?_setCell_same _ _ _ (HXr0.out.cell (o := 0) rfl)]) rfl ?_
    exact ⟨none, 0, by rw [e1.out, e2.out, e3.out]; rfl, by rw [e1.out]; exact Own.nil, (by ((repeat (first | refine Below.alloc ?_ (by first | omega | (simp; done) | (simp; omega)) _ | refine Below.drew ?_ | refine Below.setCell ?_ (by first | omega | (simp; done) | (simp; omega)) _)); exact HB.out))⟩
  · have e1 : Hid (addEL l t ti k b = addL l t ti k b) := by rw [Hid, addEL, h1]; rfl
    have e2 : Hid (addELeaf l t ti k b = addLeaf l t ti k b) := by rw [Hid, addELeaf, h1]; rfl
    have e3 : Hid (addECode l t ti k b = addCode l t ti k b) := by rw [Hid, addECode, h1]; rfl
    have h5 : n ≤ 512 := by have := logOk_len h1; have := HN.out; omega
    clear h1
    go_wp2_with fail
    refine calls_named (fun w3 hw => ?_)
    have hz3 : w2.heap.size + 0 ≤ w3.heap.size := by rw [hw]; first | omega | (simp [World.setCell]; done) | (simp [World.setCell]; omega)
    have hzz3 : w.heap.size ≤ w3.heap.size := by omega
    replace HB : Hid (Below w.heap.size w w3) := by rw [Hid, hw]; exact (by ((repeat (first | refine Below.alloc ?_ (by first | omega | (simp; done) | (simp; omega)) _ | refine Below.drew ?_ | refine Below.setCell ?_ (by first | omega | (simp; done) | (simp; omega)) _)); exact HB.out))
    replace HOA : Hid (Rd w3 (0) (w.heap.size) (A) (ents l)) := by rw [Hid, hw]; (repeat (first | (with_reducible refine Rd.alloc ?_ _) | (with_reducible refine Rd.drew ?_) | ((with_reducible refine Rd.setCell ?_ ?_ _); rotate_left 1; (first | omega | (simp; done) | (simp; omega))))); exact HOA.out
    replace HXl0 : Hid (NewBox w3 (w.heap.size) [.slice A n c]) := by rw [Hid, hw]; (repeat (first | (with_reducible refine NewBox.alloc ?_ _) | (with_reducible refine NewBox.drew ?_) | ((with_reducible refine NewBox.setCell ?_ ?_ _); rotate_left 1; (first | omega | (simp; done) | (simp; omega))))); exact HXl0.out
    clear hxl0 hfl0 hkl0
    have hxl0 := HXl0.out.2.1
    have hfl0 := HXl0.out.2.2
    have hkl0 := HXl0.out.1
    replace HXr0 : Hid (NewBox w3 (w.heap.size + 1) [.slice none 0 0]) := by rw [Hid, hw]; (repeat (first | (with_reducible refine NewBox.alloc ?_ _) | (with_reducible refine NewBox.drew ?_) | ((with_reducible refine NewBox.setCell ?_ ?_ _); rotate_left 1; (first | omega | (simp; done) | (simp; omega))))); exact HXr0.out
    clear hxr0 hfr0 hkr0
    have hxr0 := HXr0.out.2.1
    have hfr0 := HXr0.out.2.2
    have hkr0 := HXr0.out.1
    clear hw
    refine (l09Add_c A c _ _ n l t ti k b _ HOA.out HN.out h5 hA ht HI.out hk hb).mono ?_
    rintro e w4 ⟨A4, c4, rfl, hA4, ho4, hb⟩
    have hzw4 : w3.heap.size ≤ w4.heap.size := hb.size
    have hzzw4 : w.heap.size ≤ w4.heap.size := by omega
    replace HB : Hid (Below w.heap.size w w4) := below_then HB.out hb HB.out.size
    replace HOA : Hid (Rd w4 (0) (w.heap.size) (A) (ents l)) := HOA.out.below hb
    replace HXl0 : Hid (NewBox w4 (w.heap.size) [.slice A n c]) := HXl0.out.below hb
    clear hxl0 hfl0 hkl0
    have hxl0 := HXl0.out.2.1
    have hfl0 := HXl0.out.2.2
    have hkl0 := HXl0.out.1
    replace HXr0 : Hid (NewBox w4 (w.heap.size + 1) [.slice none 0 0]) := HXr0.out.below hb
    clear hxr0 hfr0 hkr0
    have hxr0 := HXr0.out.2.1
    have hfr0 := HXr0.out.2.2
    have hkr0 := HXr0.out.1
    clear hb
    have HON : Hid (Own w4 (w3.heap.size) (w4.heap.size) (A4) (ents (addL l t ti k b))) := Lib.hid ho4
    clear ho4 hA4
    go_wp2
    refine bodyPost_ret (v := .tuple #[.agg #[.slice A4 (addL l t ti k b).length c4], .int .i64 (addLeaf l t ti k b), .int .i64 (addCode l t ti k b)]) (by simp [results, Try.results60, go_sem, World.cell?_setCell_same _ _ _ (HXr0.out.cell (o := 0) rfl)]) rfl ?_
    exact ⟨A4, c4, by rw [e1.out, e2.out, e3.out], by rw [e1.out]; exact ((by (repeat (first | (with_reducible refine Own.alloc ?_ _) | (with_reducible refine Own.drew ?_) | ((with_reducible refine Own.setCell ?_ ?_ _); rotate_left 1; (first | omega | (simp; done) | (simp; omega))))); exact HON.out) : Own _ (w3.heap.size) (w4.heap.size) A4 _).mono (by omega) (by first | omega | (simp [World.setCell]; done) | (simp [World.setCell]; omega)) (by first | omega | (simp [World.setCell]; done) | (simp [World.setCell]; omega)), (by ((repeat (first | refine Below.alloc ?_ (by first | omega | (simp; done) | (simp; omega)) _ | refine Below.drew ?_ | refine Below.setCell ?_ (by first | omega | (simp; done) | (simp; omega)) _)); exact HB.out))⟩

set_option maxRecDepth 100000 in
set_option maxHeartbeats 400000 in
theorem addEntry_no (p o : Nat) (A : Option Addr) (c lo hi n : Nat) (l : List Ent) (t : ByteArray) (ti : Int) (k b : ByteArray) (w : World) (hp : w.cell? ⟨p, o, none⟩ = some (.slice A n c)) (hr : Rd w lo hi A (ents l)) (hn : l.length = n) (hl : n ≤ 512)
    (ht : t.size ≤ 1048576) (hk : k.size ≤ 1048576) (hb : b.size ≤ 1048576) (cd : Int) (hc : addCode l t ti k b = cd) (h0 : cd ≠ 0) :
    Calls Try.prog 97 #[.pointer (some ⟨p, o, none⟩), .string t, .int .i64 ti, .string k, .string b] w fun e w' => e = .returned (.tuple #[.int .i64 0, .int .i64 cd]) ∧ w = w' := by
  have HN := Lib.hid hn
  have HC := Lib.hid hc
  clear hn hc
  go_enter Try.func97, Try.ntmps97
  go_wp2_with fail
  refine (implNameOk_c t _ (by unfold maxLen; omega)).mono ?_
  rintro e w1 ⟨rfl, rfl⟩
  rcases h1 : nameOk t with _ | _
  · obtain rfl : cd = 2 := by have h := HC.out; rw [addCode, h1] at h; exact h.symm
    clear h1
    go_wp2
    go_ret2
    exact ⟨rfl, rfl⟩
  · have H1 := Lib.hid h1
    clear h1
    go_wp2_with fail
    refine (partsOk_c ti k b _ (by unfold maxLen; omega) (by unfold maxLen; omega)).mono ?_
    rintro e w1 ⟨rfl, rfl⟩
    rcases h2 : partsOk ti k b with _ | _
    · obtain rfl : cd = 3 := by have h := HC.out; rw [addCode, H1.out, h2] at h; exact h.symm
      clear h2
      go_wp2
      go_ret2
      exact ⟨rfl, rfl⟩
    · have H2 := Lib.hid h2
      clear h2
      have hq : 512 ≤ n ∧ cd = 4 := by
        have h := HC.out
        rw [addCode, H1.out, H2.out, HN.out, if_pos rfl, if_pos rfl] at h
        by_cases h5 : 512 ≤ n
        · rw [if_pos (by simpa using h5)] at h; exact ⟨h5, h.symm⟩
        · rw [if_neg (by simpa using h5)] at h; exact absurd h.symm h0
      obtain ⟨h5, rfl⟩ := hq
      go_wp2
      go_ret2
      exact ⟨rfl, rfl⟩

set_option maxRecDepth 100000 in
set_option maxHeartbeats 4000000 in
theorem addEntry_yes (p o base : Nat) (A : Option Addr) (c n : Nat) (l : List Ent) (t : ByteArray) (ti : Int) (k b : ByteArray) (w : World) (hp : w.cell? ⟨p, o, none⟩ = some (.slice A n c)) (hpf : w.frozen? ⟨p, o, none⟩ = false)
    (hown : w.ownsRow base 98 5 (.slice A n c) n (ents l)) (hpb : (.slice A n c : Value).ownBlock ≠ some p) (hn : l.length = n) (hl : n ≤ 512)
    (ht : t.size ≤ 1048576) (hk : k.size ≤ 1048576) (hb : b.size ≤ 1048576) (hc : addCode l t ti k b = 0) (hbase : base ≤ w.heap.size) :
    Calls Try.prog 97 #[.pointer (some ⟨p, o, none⟩), .string t, .int .i64 ti, .string k, .string b] w fun e w' => ∃ (g cap : Nat) (w1 : World), e = .returned (.tuple #[.int .i64 n, .int .i64 0]) ∧
      w1.ownsRow base 98 5 (.slice (some ⟨g, 0, none⟩) (n + 1) cap) (n + 1) (ents (l ++ [newEnt l t ti k b])) ∧ w.grownBy w1 (.slice A n c : Value).ownBlock ∧ ((.slice A n c : Value).ownBlock = some g ∨ w.heap.size ≤ g) ∧
      w' = w1.setCell ⟨p, o, none⟩ (.slice (some ⟨g, 0, none⟩) (n + 1) cap) := by
  have HN := Lib.hid hn
  have HC := Lib.hid hc
  have hpz := World.block_lt_of_cell? w _ hp
  have HO := Lib.hid hown
  have HB := Lib.hid hpb
  obtain ⟨A0, c0, e0, _, _, hO⟩ := ownsRow_slice hown
  injection e0 with e1 e2 e3
  subst e1
  subst e3
  have HRD := Lib.hid hO.rd
  obtain ⟨i0, hi0, hz0, hz1, hz2⟩ := info_parts info_Entry
  clear hn hc hown hpb hO e2
  go_enter Try.func97, Try.ntmps97
  go_wp2_with fail
  refine (implNameOk_c t _ (by unfold maxLen; omega)).mono ?_
  rintro e w1 ⟨rfl, rfl⟩
  rcases h1 : nameOk t with _ | _
  · have h := HC.out; rw [addCode, h1] at h; cases h
  · have H1 := Lib.hid h1
    clear h1
    go_wp2_with fail
    refine (partsOk_c ti k b _ (by unfold maxLen; omega) (by unfold maxLen; omega)).mono ?_
    rintro e w1 ⟨rfl, rfl⟩
    rcases h2 : partsOk ti k b with _ | _
    · have h := HC.out; rw [addCode, H1.out, h2] at h; cases h
    · have H2 := Lib.hid h2
      clear h2
      have h5 : n < 512 := by
        have h := HC.out
        rw [addCode, H1.out, H2.out, HN.out, if_pos rfl, if_pos rfl] at h
        by_cases h5 : 512 ≤ n
        · rw [if_pos (by simpa using h5)] at h; cases h
        · omega
      go_wp2_with fail
      refine (nextOf_c A c _ _ n l t _ HRD.out HN.out (by omega)).mono ?_
      rintro e w2 ⟨rfl, hb2⟩
      have hp2 := cell_later hb2 hp
      have hpf2 := froz_later hb2 hp hpf
      have hz2' : w.heap.size ≤ w2.heap.size := hb2.size
      have HB2 := Lib.hid hb2
      have HO2 : Hid (w2.ownsRow base 98 5 (.slice A n c) n (ents l)) := HO.out.kept (row := none) ⟨hb2.os, hb2.tape, hb2.output, hb2.size, fun k hk _ => hb2.block k hk⟩ (by
        rcases hx : (.slice A n c : Value).ownBlock with _ | q
        · exact .inl rfl
        · exact .inr (by intro h; cases h))
      clear hb2
      go_wp2_with fail
      refine wp_named (fun w3 hw => ?_)
      have hz3 : w3.heap.size = w2.heap.size + 1 := by rw [hw]; simp
      have hp3 : w3.cell? ⟨p, o, none⟩ = some (.slice A n c) := by rw [hw]; exact cell_alloc_old _ _ hp2
      have hpf3 : w3.frozen? ⟨p, o, none⟩ = false := by rw [hw]; exact froz_alloc_old _ _ hp2 hpf2
      have HE : Hid (NewBox w3 w2.heap.size [.string t, .int .i64 (cnt l t : Nat), .int .i64 ti, .string k, .string b]) := by
        rw [Hid, hw]; exact ⟨by simp, fun o => by rcases o with _ | _ | _ | _ | _ | o <;> go_simp, fun o => by go_simp⟩
      have HO3 : Hid (w3.ownsRow base 98 5 (.slice A n c) n (ents l)) := by rw [Hid, hw]; exact HO2.out.alloc _
      have HG3 : Hid (w.grownBy w3 none) := by rw [Hid, hw]; exact grown_below (below_then HB2.out ((Below.refl _ _).alloc (Nat.le_refl _) _) HB2.out.size)
      clear hw
      have hxe := HE.out.2.1
      have hp3z : p < w3.heap.size := by omega
      have hz3' : w2.heap.size < w3.heap.size := by omega
      have HZ3 := Lib.hid hz3
      clear hz3
      have HE2 : Hid ((.slice A n c : Value).ownBlock ≠ some w2.heap.size) := fun h => by have := (HO.out.lt _ h).2; omega
      go_region_law
        ((refine step_append_lies _ (by rfl) _ _ _ (by rfl) base 98 i0 _ 5 64 Try.underlying55 hi0 hz0 hz1 hz2 rfl (by omega) (.slice A n c) n (ents l) (by rfl) ((HO3.out.alloc _).drew)
              ⟨w3.heap.size, 0, none⟩ 1 1 (ents [newEnt l t ti k b]) (by rfl) (by rfl) (World.news_of_block (heap_alloc_new w3 _)) (cloneEnt_one _)
              (by omega) (by unfold maxLen; omega) (by omega) (by simp; omega) (w3.heap.size + 1) (by simp) ?_; intro gg cap w4 hown4 hgrow hat hlt
          have hp4 : w4.cell? ⟨p, o, none⟩ = some (.slice A n c) := (World.cell?_of_block (hgrow.block p (by simp; omega) (Ne.symm HB.out))).trans (by go_simp)
          have hpf4 : w4.frozen? ⟨p, o, none⟩ = false := (World.frozen?_of_block (hgrow.block p (by simp; omega) (Ne.symm HB.out))).trans (by go_simp)
          ))
      all_goals
        go_wp2
        go_ret2
        rw [← ents_app] at hown4
        refine ⟨gg, cap, w4, rfl, hown4, ?_, hat.imp id (fun h => by omega), rfl⟩
        have hb4 : Below w3.heap.size w3 ((w3.alloc (.cells #[.string t, .int .i64 (cnt l t : Nat), .int .i64 ti, .string k, .string b] 98)).drew) := ((Below.refl _ _).alloc (Nat.le_refl _) _).drew
        have hs3 := HG3.out.size
        exact ⟨hgrow.os.trans HG3.out.os, hgrow.tape.trans HG3.out.tape, hgrow.output.trans HG3.out.output, Nat.le_trans HG3.out.size (Nat.le_trans hb4.size hgrow.size), fun q hq hne => (hgrow.block q (Nat.lt_of_lt_of_le (Nat.lt_of_lt_of_le hq hs3) hb4.size) hne).trans ((hb4.block q (by omega)).trans (HG3.out.block q hq (by intro h; cases h)))⟩

set_option maxRecDepth 100000 in
set_option maxHeartbeats 400000 in
theorem copyLog_c (A : Option Addr) (c lo hi n : Nat) (l : List Ent) (w : World) (hr : Rd w lo hi A (ents l)) (hn : l.length = n) (hl : n ≤ 1048576) (hA : A = none → c = 0) :
    Calls Try.prog 96 #[.agg #[.slice A n c]] w fun e w' => ∃ (A' : Option Addr) (c' : Nat), e = .returned (.agg #[.slice A' n c']) ∧ w'.ownsRow w.heap.size 98 5 (.slice A' n c') n (ents l) ∧ Below w.heap.size w w' := by
  have HN := Lib.hid hn
  clear hn
  go_enter Try.func96, Try.ntmps96
  have HB : Hid (Below w.heap.size w w) := Below.refl _ _
  have HOA : Hid (Rd w (0) (w.heap.size) (A) (ents l)) := Rd.base hr
  clear hr
  go_wp2_with fail
  refine calls_named (fun w1 hw => ?_)
  have hz1 : w.heap.size + 2 ≤ w1.heap.size := by rw [hw]; first | omega | (simp [World.setCell]; done) | (simp [World.setCell]; omega)
  have hzz1 : w.heap.size ≤ w1.heap.size := by omega
  replace HB : Hid (Below w.heap.size w w1) := by rw [Hid, hw]; exact (by ((repeat (first | refine Below.alloc ?_ (by first | omega | (simp; done) | (simp; omega)) _ | refine Below.drew ?_ | refine Below.setCell ?_ (by first | omega | (simp; done) | (simp; omega)) _)); exact HB.out))
  replace HOA : Hid (Rd w1 (0) (w.heap.size) (A) (ents l)) := by rw [Hid, hw]; (repeat (first | (with_reducible refine Rd.alloc ?_ _) | (with_reducible refine Rd.drew ?_) | ((with_reducible refine Rd.setCell ?_ ?_ _); rotate_left 1; (first | omega | (simp; done) | (simp; omega))))); exact HOA.out
  have HXl0 : Hid (NewBox w1 (w.heap.size) [.slice A n c]) := by rw [Hid, hw]; exact ⟨by first | omega | (simp [World.setCell]; done) | (simp [World.setCell]; omega), fun o => by rcases o with _ | o <;> go_simp, fun o => by go_simp⟩
  have hxl0 := HXl0.out.2.1
  have hfl0 := HXl0.out.2.2
  have hkl0 := HXl0.out.1
  have HXr0 : Hid (NewBox w1 (w.heap.size + 1) [.slice none 0 0]) := by rw [Hid, hw]; exact ⟨by first | omega | (simp [World.setCell]; done) | (simp [World.setCell]; omega), fun o => by rcases o with _ | o <;> go_simp, fun o => by go_simp⟩
  have hxr0 := HXr0.out.2.1
  have hfr0 := HXr0.out.2.2
  have hkr0 := HXr0.out.1
  clear hw
  refine (cloneEntR_c A c _ _ n l _ HOA.out HN.out hl hA).mono ?_
  rintro e w2 ⟨A', c', rfl, hrow, hb⟩
  have hzw2 : w1.heap.size ≤ w2.heap.size := hb.size
  have hzzw2 : w.heap.size ≤ w2.heap.size := by omega
  replace HB : Hid (Below w.heap.size w w2) := below_then HB.out hb HB.out.size
  replace HOA : Hid (Rd w2 (0) (w.heap.size) (A) (ents l)) := HOA.out.below hb
  replace HXl0 : Hid (NewBox w2 (w.heap.size) [.slice A n c]) := HXl0.out.below hb
  clear hxl0 hfl0 hkl0
  have hxl0 := HXl0.out.2.1
  have hfl0 := HXl0.out.2.2
  have hkl0 := HXl0.out.1
  replace HXr0 : Hid (NewBox w2 (w.heap.size + 1) [.slice none 0 0]) := HXr0.out.below hb
  clear hxr0 hfr0 hkr0
  have hxr0 := HXr0.out.2.1
  have hfr0 := HXr0.out.2.2
  have hkr0 := HXr0.out.1
  clear hb
  go_wp2
  refine bodyPost_ret (v := .agg #[.slice A' n c']) (by simp [results, Try.results96, go_sem, World.cell?_setCell_same _ _ _ (HXr0.out.cell (o := 0) rfl)]) rfl ?_
  exact ⟨A', c', rfl, ownsRow_lower (ownsRow_setCell hrow (by simp; omega) _) (by omega), (by ((repeat (first | refine Below.alloc ?_ (by first | omega | (simp; done) | (simp; omega)) _ | refine Below.drew ?_ | refine Below.setCell ?_ (by first | omega | (simp; done) | (simp; omega)) _)); exact HB.out))⟩

set_option maxRecDepth 100000 in
set_option maxHeartbeats 400000 in
theorem implAddEntry_c (A : Option Addr) (c lo hi n : Nat) (l : List Ent) (t : ByteArray) (ti : Int) (k b : ByteArray) (w : World) (hr : Rd w lo hi A (ents l)) (hn : l.length = n) (hl : n ≤ 1048576) (hA : A = none → c = 0)
    (hf : ∀ x ∈ l, x.fits) (ht : t.size ≤ 1048576) (hk : k.size ≤ 1048576) (hb : b.size ≤ 1048576) :
    Calls Try.prog 61 #[.agg #[.slice A n c], .string t, .int .i64 ti, .string k, .string b] w fun e w' => ∃ (A' : Option Addr) (c' : Nat), e = .returned (.tuple #[.agg #[.slice A' (addEL l t ti k b).length c'], .int .i64 (addELeaf l t ti k b), .int .i64 (addECode l t ti k b)]) ∧
      Own w' w.heap.size w'.heap.size A' (ents (addEL l t ti k b)) ∧ Below w.heap.size w w' := by
  have HN := Lib.hid hn
  have HF := Lib.hid hf
  clear hn hf
  go_enter Try.func61, Try.ntmps61
  have HB : Hid (Below w.heap.size w w) := Below.refl _ _
  have HOA : Hid (Rd w (0) (w.heap.size) (A) (ents l)) := Rd.base hr
  clear hr
  go_wp2_with fail
  refine calls_named (fun w1 hw => ?_)
  have hz1 : w.heap.size + 2 ≤ w1.heap.size := by rw [hw]; first | omega | (simp [World.setCell]; done) | (simp [World.setCell]; omega)
  have hzz1 : w.heap.size ≤ w1.heap.size := by omega
  replace HB : Hid (Below w.heap.size w w1) := by rw [Hid, hw]; exact (by ((repeat (first | refine Below.alloc ?_ (by first | omega | (simp; done) | (simp; omega)) _ | refine Below.drew ?_ | refine Below.setCell ?_ (by first | omega | (simp; done) | (simp; omega)) _)); exact HB.out))
  replace HOA : Hid (Rd w1 (0) (w.heap.size) (A) (ents l)) := by rw [Hid, hw]; (repeat (first | (with_reducible refine Rd.alloc ?_ _) | (with_reducible refine Rd.drew ?_) | ((with_reducible refine Rd.setCell ?_ ?_ _); rotate_left 1; (first | omega | (simp; done) | (simp; omega))))); exact HOA.out
  have HXl0 : Hid (NewBox w1 (w.heap.size) [.slice A n c]) := by rw [Hid, hw]; exact ⟨by first | omega | (simp [World.setCell]; done) | (simp [World.setCell]; omega), fun o => by rcases o with _ | o <;> go_simp, fun o => by go_simp⟩
  have hxl0 := HXl0.out.2.1
  have hfl0 := HXl0.out.2.2
  have hkl0 := HXl0.out.1
  have HXr0 : Hid (NewBox w1 (w.heap.size + 1) [.slice none 0 0]) := by rw [Hid, hw]; exact ⟨by first | omega | (simp [World.setCell]; done) | (simp [World.setCell]; omega), fun o => by rcases o with _ | o <;> go_simp, fun o => by go_simp⟩
  have hxr0 := HXr0.out.2.1
  have hfr0 := HXr0.out.2.2
  have hkr0 := HXr0.out.1
  clear hw
  refine (implLogOk_c A c _ _ n l _ HOA.out HN.out hl HF.out).mono ?_
  rintro e w2 ⟨rfl, hb⟩
  have hzw2 : w1.heap.size ≤ w2.heap.size := hb.size
  have hzzw2 : w.heap.size ≤ w2.heap.size := by omega
  replace HB : Hid (Below w.heap.size w w2) := below_then HB.out hb HB.out.size
  replace HOA : Hid (Rd w2 (0) (w.heap.size) (A) (ents l)) := HOA.out.below hb
  replace HXl0 : Hid (NewBox w2 (w.heap.size) [.slice A n c]) := HXl0.out.below hb
  clear hxl0 hfl0 hkl0
  have hxl0 := HXl0.out.2.1
  have hfl0 := HXl0.out.2.2
  have hkl0 := HXl0.out.1
  replace HXr0 : Hid (NewBox w2 (w.heap.size + 1) [.slice none 0 0]) := HXr0.out.below hb
  clear hxr0 hfr0 hkr0
  have hxr0 := HXr0.out.2.1
  have hfr0 := HXr0.out.2.2
  have hkr0 := HXr0.out.1
  clear hb
  rcases h1 : logOk l with _ | _
  · have e1 : Hid (addEL l t ti k b = []) := by rw [Hid, addEL, h1]; rfl
    have e2 : Hid (addELeaf l t ti k b = 0) := by rw [Hid, addELeaf, h1]; rfl
    have e3 : Hid (addECode l t ti k b = 1) := by rw [Hid, addECode, h1]; rfl
    clear h1
    go_wp2
    refine bodyPost_ret (v := .tuple #[.agg #[.slice none 0 0], .int .i64 0, .int .i64 1]) (by simp [results, Try.results61, go_sem, World.cell?_setCell_same _ _ _ (HXr0.out.cell (o := 0) rfl)]) rfl ?_
    exact ⟨none, 0, by rw [e1.out, e2.out, e3.out]; rfl, by rw [e1.out]; exact Own.nil, (by ((repeat (first | refine Below.alloc ?_ (by first | omega | (simp; done) | (simp; omega)) _ | refine Below.drew ?_ | refine Below.setCell ?_ (by first | omega | (simp; done) | (simp; omega)) _)); exact HB.out))⟩
  · have e1 : Hid (addEL l t ti k b = addL l t ti k b) := by rw [Hid, addEL, h1]; rfl
    have e2 : Hid (addELeaf l t ti k b = addLeaf l t ti k b) := by rw [Hid, addELeaf, h1]; rfl
    have e3 : Hid (addECode l t ti k b = addCode l t ti k b) := by rw [Hid, addECode, h1]; rfl
    have h5 : n ≤ 512 := by have := logOk_len h1; have := HN.out; omega
    clear h1
    go_wp2_with fail
    refine calls_named (fun w3 hw => ?_)
    have hz3 : w2.heap.size + 0 ≤ w3.heap.size := by rw [hw]; first | omega | (simp [World.setCell]; done) | (simp [World.setCell]; omega)
    have hzz3 : w.heap.size ≤ w3.heap.size := by omega
    replace HB : Hid (Below w.heap.size w w3) := by rw [Hid, hw]; exact (by ((repeat (first | refine Below.alloc ?_ (by first | omega | (simp; done) | (simp; omega)) _ | refine Below.drew ?_ | refine Below.setCell ?_ (by first | omega | (simp; done) | (simp; omega)) _)); exact HB.out))
    replace HOA : Hid (Rd w3 (0) (w.heap.size) (A) (ents l)) := by rw [Hid, hw]; (repeat (first | (with_reducible refine Rd.alloc ?_ _) | (with_reducible refine Rd.drew ?_) | ((with_reducible refine Rd.setCell ?_ ?_ _); rotate_left 1; (first | omega | (simp; done) | (simp; omega))))); exact HOA.out
    replace HXl0 : Hid (NewBox w3 (w.heap.size) [.slice A n c]) := by rw [Hid, hw]; (repeat (first | (with_reducible refine NewBox.alloc ?_ _) | (with_reducible refine NewBox.drew ?_) | ((with_reducible refine NewBox.setCell ?_ ?_ _); rotate_left 1; (first | omega | (simp; done) | (simp; omega))))); exact HXl0.out
    clear hxl0 hfl0 hkl0
    have hxl0 := HXl0.out.2.1
    have hfl0 := HXl0.out.2.2
    have hkl0 := HXl0.out.1
    replace HXr0 : Hid (NewBox w3 (w.heap.size + 1) [.slice none 0 0]) := by rw [Hid, hw]; (repeat (first | (with_reducible refine NewBox.alloc ?_ _) | (with_reducible refine NewBox.drew ?_) | ((with_reducible refine NewBox.setCell ?_ ?_ _); rotate_left 1; (first | omega | (simp; done) | (simp; omega))))); exact HXr0.out
    clear hxr0 hfr0 hkr0
    have hxr0 := HXr0.out.2.1
    have hfr0 := HXr0.out.2.2
    have hkr0 := HXr0.out.1
    clear hw
    refine (copyLog_c A c _ _ n l _ HOA.out HN.out (by omega) hA).mono ?_
    rintro e w4 ⟨A2, c2, rfl, hrow, hb⟩
    have hzw4 : w3.heap.size ≤ w4.heap.size := hb.size
    have hzzw4 : w.heap.size ≤ w4.heap.size := by omega
    replace HB : Hid (Below w.heap.size w w4) := below_then HB.out hb HB.out.size
    replace HOA : Hid (Rd w4 (0) (w.heap.size) (A) (ents l)) := HOA.out.below hb
    replace HXl0 : Hid (NewBox w4 (w.heap.size) [.slice A n c]) := HXl0.out.below hb
    clear hxl0 hfl0 hkl0
    have hxl0 := HXl0.out.2.1
    have hfl0 := HXl0.out.2.2
    have hkl0 := HXl0.out.1
    replace HXr0 : Hid (NewBox w4 (w.heap.size + 1) [.slice none 0 0]) := HXr0.out.below hb
    clear hxr0 hfr0 hkr0
    have hxr0 := HXr0.out.2.1
    have hfr0 := HXr0.out.2.2
    have hkr0 := HXr0.out.1
    clear hb
    have HROW := Lib.hid hrow
    have HRD : Hid (Rd w4 0 w4.heap.size A2 (ents l)) := by
      obtain ⟨A3, c3, q1, _, _, q2⟩ := ownsRow_slice hrow
      injection q1 with q3
      subst q3
      exact q2.rd.base
    clear hrow
    go_wp2_with fail
    refine calls_named (fun w5 hw => ?_)
    have hz5 : w4.heap.size + 1 ≤ w5.heap.size := by rw [hw]; first | omega | (simp [World.setCell]; done) | (simp [World.setCell]; omega)
    have hzz5 : w.heap.size ≤ w5.heap.size := by omega
    replace HB : Hid (Below w.heap.size w w5) := by rw [Hid, hw]; exact (by ((repeat (first | refine Below.alloc ?_ (by first | omega | (simp; done) | (simp; omega)) _ | refine Below.drew ?_ | refine Below.setCell ?_ (by first | omega | (simp; done) | (simp; omega)) _)); exact HB.out))
    replace HOA : Hid (Rd w5 (0) (w.heap.size) (A) (ents l)) := by rw [Hid, hw]; (repeat (first | (with_reducible refine Rd.alloc ?_ _) | (with_reducible refine Rd.drew ?_) | ((with_reducible refine Rd.setCell ?_ ?_ _); rotate_left 1; (first | omega | (simp; done) | (simp; omega))))); exact HOA.out
    replace HXl0 : Hid (NewBox w5 (w.heap.size) [.slice A n c]) := by rw [Hid, hw]; (repeat (first | (with_reducible refine NewBox.alloc ?_ _) | (with_reducible refine NewBox.drew ?_) | ((with_reducible refine NewBox.setCell ?_ ?_ _); rotate_left 1; (first | omega | (simp; done) | (simp; omega))))); exact HXl0.out
    clear hxl0 hfl0 hkl0
    have hxl0 := HXl0.out.2.1
    have hfl0 := HXl0.out.2.2
    have hkl0 := HXl0.out.1
    replace HXr0 : Hid (NewBox w5 (w.heap.size + 1) [.slice none 0 0]) := by rw [Hid, hw]; (repeat (first | (with_reducible refine NewBox.alloc ?_ _) | (with_reducible refine NewBox.drew ?_) | ((with_reducible refine NewBox.setCell ?_ ?_ _); rotate_left 1; (first | omega | (simp; done) | (simp; omega))))); exact HXr0.out
    clear hxr0 hfr0 hkr0
    have hxr0 := HXr0.out.2.1
    have hfr0 := HXr0.out.2.2
    have hkr0 := HXr0.out.1
    have HXo0 : Hid (NewBox w5 (w4.heap.size) [.slice A2 n c2]) := by rw [Hid, hw]; exact ⟨by first | omega | (simp [World.setCell]; done) | (simp [World.setCell]; omega), fun o => by rcases o with _ | o <;> go_simp, fun o => by go_simp⟩
    have hxo0 := HXo0.out.2.1
    have hfo0 := HXo0.out.2.2
    have hko0 := HXo0.out.1
    have HROW5 : Hid (w5.ownsRow w3.heap.size 98 5 (.slice A2 n c2) n (ents l)) := by rw [Hid, hw]; exact HROW.out.alloc _
    have HRD5 : Hid (Rd w5 0 w4.heap.size A2 (ents l)) := by rw [Hid, hw]; exact HRD.out.alloc _
    clear hw
    by_cases hc : addCode l t ti k b = 0
    · have HC := Lib.hid hc
      have ey := addL_yes hc
      have el : Hid ((addL l t ti k b).length = n + 1) := by rw [Hid, ey.1, List.length_append, HN.out]; rfl
      have el2 : Hid (addL l t ti k b = l ++ [newEnt l t ti k b]) := ey.1
      have ef : Hid (addLeaf l t ti k b = (n : Nat)) := by rw [Hid, ey.2, HN.out]
      have hne : (.slice A2 n c2 : Value).ownBlock ≠ some w4.heap.size := fun h => by have := (HROW.out.lt _ h).2; omega
      have HNE := Lib.hid hne
      clear ey hc hne
      refine (addEntry_yes w4.heap.size 0 w3.heap.size A2 c2 n l t ti k b _ (HXo0.out.cell rfl) (hfo0 0) HROW5.out HNE.out HN.out h5 ht hk hb HC.out (by omega)).mono ?_
      rintro e w6 ⟨g, cap, wg, rfl, hrow, hgr, hat, rfl⟩
      have ho := grown_only HROW5.out hgr
      have hko : wg.cell? ⟨w4.heap.size, 0, none⟩ = some (.slice A2 n c2) := (World.cell?_of_block (hgr.block w4.heap.size (by omega) (Ne.symm HNE.out))).trans (HXo0.out.cell rfl)
      have hkf : wg.frozen? ⟨w4.heap.size, 0, none⟩ = false := (World.frozen?_of_block (hgr.block w4.heap.size (by omega) (Ne.symm HNE.out))).trans (hfo0 0)
      have HG := Lib.hid hgr
      have HRG := Lib.hid hrow
      have hgn : g ≠ w4.heap.size := by
        rintro rfl
        rcases hat with h | h
        · exact HNE.out h
        · omega
      have hgl : w3.heap.size ≤ g := (hrow.lt g rfl).1
      have hgz : g < wg.heap.size := (hrow.lt g rfl).2
      clear hat hgr hrow
      have hzwg : w5.heap.size ≤ wg.heap.size := ho.size
      have hzzwg : w.heap.size ≤ wg.heap.size := by omega
      replace HB : Hid (Below w.heap.size w wg) := below_only HB.out ho (by omega) HB.out.size
      replace HXl0 : Hid (NewBox wg (w.heap.size) [.slice A n c]) := HXl0.out.only ho (by first | omega | (simp; omega))
      clear hxl0 hfl0 hkl0
      have hxl0 := HXl0.out.2.1
      have hfl0 := HXl0.out.2.2
      have hkl0 := HXl0.out.1
      replace HXr0 : Hid (NewBox wg (w.heap.size + 1) [.slice none 0 0]) := HXr0.out.only ho (by first | omega | (simp; omega))
      clear hxr0 hfr0 hkr0
      have hxr0 := HXr0.out.2.1
      have hfr0 := HXr0.out.2.2
      have hkr0 := HXr0.out.1
      clear hxo0 hfo0 hko0 HXo0
      clear ho
      have hsz : w4.heap.size < wg.heap.size := by omega
      go_wp2
      refine bodyPost_ret (v := .tuple #[.agg #[.slice (some ⟨g, 0, none⟩) (n + 1) cap], .int .i64 n, .int .i64 0]) (by simp [results, Try.results61, go_sem, World.cell?_setCell_other, hxr0]) rfl ?_
      refine ⟨some ⟨g, 0, none⟩, cap, by rw [e1.out, e2.out, e3.out, HC.out, el.out, ef.out], ?_, (by ((repeat (first | refine Below.alloc ?_ (by first | omega | (simp; done) | (simp; omega)) _ | refine Below.drew ?_ | refine Below.setCell ?_ (by first | omega | (simp; done) | (simp; omega)) _)); exact HB.out))⟩
      rw [e1.out, el2.out]
      exact (((Own.of_ownsRow HRG.out).tight.setCell (by first | omega | (simp; omega)) _).setCell (by first | omega | (simp; omega)) _).mono (by omega) (by first | omega | (simp [World.setCell]; done) | (simp [World.setCell]; omega)) (by first | omega | (simp [World.setCell]; done) | (simp [World.setCell]; omega))
    · obtain ⟨cd, hcd⟩ : ∃ cd, addCode l t ti k b = cd := ⟨_, rfl⟩
      have h0 : cd ≠ 0 := fun h => hc (hcd.trans h)
      have HC := Lib.hid hcd
      clear hc hcd
      refine (addEntry_no w4.heap.size 0 A2 c2 _ _ n l t ti k b _ (HXo0.out.cell rfl) HRD5.out HN.out h5 ht hk hb cd HC.out h0).mono ?_
      rintro e w6 ⟨rfl, rfl⟩
      have ey := addL_no HC.out h0
      have el : Hid (addL l t ti k b = []) := ey.1
      have ef : Hid (addLeaf l t ti k b = 0) := ey.2
      have hcb : (cd != 0) = true := by rw [bne_iff_ne]; exact h0
      clear ey h0
      go_wp2
      refine bodyPost_ret (v := .tuple #[.agg #[.slice none 0 0], .int .i64 0, .int .i64 cd]) (by simp [results, Try.results61, go_sem, World.cell?_setCell_same _ _ _ (HXr0.out.cell (o := 0) rfl)]) rfl ?_
      exact ⟨none, 0, by rw [e1.out, e2.out, e3.out, HC.out, el.out, ef.out]; rfl, by rw [e1.out, el.out]; exact Own.nil, (by ((repeat (first | refine Below.alloc ?_ (by first | omega | (simp; done) | (simp; omega)) _ | refine Below.drew ?_ | refine Below.setCell ?_ (by first | omega | (simp; done) | (simp; omega)) _)); exact HB.out))⟩
end Go.Proofs.Ytjmhebmjlnianaa
