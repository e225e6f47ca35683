/- Part 15 of the proof of FnProofs: lemmas and contracts. -/
import Derived.Test.YtoccjgcokffkbaaGreatTq13
import Derived.Test.YtoccjgcokffkbaaGreatTq9
import Derived.Test.YtoccjgcokffkbaaGreatTq2
import Derived.Test.YtoccjgcokffkbaaGreatTq7
import Derived.Test.YtoccjgcokffkbaaGreatTq1
import Derived.StillTailTactics
import Derived.Deep.RegionLaw
import Derived.Test.YtoccjgcokffkbaaGreatTq14
namespace Go.Proofs.YtoccjgcokffkbaaGreat
set_option linter.unusedVariables false
set_option linter.unusedSimpArgs false
set_option maxHeartbeats 20000000
section
theorem calls_pop (n : Nat) : ∀ k : Nat, n + k ≤ 512 → callsUp n k + popN (n + k) = k + popN n
 | 0, _ => by rw [callsUp, Nat.add_zero]
 | k + 1, h => by
   have h1 := calls_pop n k (by omega)
   have h2 := (tz_pop (n + k) (by omega)).1
   rw [callsUp, show n + (k + 1) = n + k + 1 by omega]
   omega
theorem popN_le (n : Nat) : popN n ≤ 10 := popUp_le n 10
theorem root_fits {width z : Int} {l : List ByteArray} (h : rngOk width z l = true) : rootOkM width z (rngRoot width l) = true := by
 obtain ⟨h1, h2, h3, h4, h5⟩ := rngOk_all h
 rw [rootOkM, inR_true.2 ⟨h1, h2⟩, decide_eq_true (rngRoot_size h5 h4), Bool.true_and, Bool.true_and]
 by_cases hz : 0 < z
 ·rw [decide_eq_true hz]; rfl
 ·have h6 : l.length = 0 := by rw [h3, show z = 0 by omega]; decide
  rw [rngRoot, if_pos h6, decide_eq_true rfl, Bool.or_true]
theorem smOk_all {width z1 z2 : Int} {l1 l2 L T : List ByteArray} {h : Hd} (hq : smOk width z1 l1 z2 l2 h L T = true) :
  sealOk width z1 l1 z2 l2 h = true ∧ areH width L = true ∧ areH width T = true ∧ (L.length : Int) ≤ 512 - z1 ∧ (T.length : Int) ≤ 512 - z2 ∧ ¬ h.num = 399 := by
 rw [smOk, smFit, Bool.and_eq_true, Bool.and_eq_true, Bool.and_eq_true, Bool.and_eq_true, Bool.and_eq_true] at hq
 obtain ⟨⟨⟨h1, h2⟩, h3⟩, ⟨h4, h5⟩, h6⟩ := hq
 exact ⟨h1, h2, h3, of_decide_eq_true h4, of_decide_eq_true h5, by simpa using h6⟩
theorem smOk_of {width z1 z2 : Int} {l1 l2 L T : List ByteArray} {h : Hd} (h1 : sealOk width z1 l1 z2 l2 h = true) (h2 : areH width L = true) (h3 : areH width T = true) (h4 : (L.length : Int) ≤ 512 - z1) (h5 : (T.length : Int) ≤ 512 - z2) (h6 : ¬ h.num = 399) : smOk width z1 l1 z2 l2 h L T = true := by
 rw [smOk, smFit, h1, h2, h3, decide_eq_true h4, decide_eq_true h5]
 simpa using h6
def nextHd (width z1 : Int) (l1 : List ByteArray) (z2 : Int) (l2 : List ByteArray) (h : Hd) (L T : List ByteArray) : Hd := ⟨h.num + 1, z1 + L.length, rngRoot width (smP width z1 l1 L), z2 + T.length, rngRoot width (smP width z2 l2 T)⟩
theorem seal_next {width z1 z2 : Int} {l1 l2 L T : List ByteArray} {h : Hd} (hq : smOk width z1 l1 z2 l2 h L T = true) :
  sealOk width (z1 + L.length) (smP width z1 l1 L) (z2 + T.length) (smP width z2 l2 T) (nextHd width z1 l1 z2 l2 h L T) = true := by
 obtain ⟨h1, h2, h3, h4, h5, h6⟩ := smOk_all hq
 obtain ⟨r1, r2, n0, n1⟩ := sealOk_all h1
 obtain ⟨g1, _, _⟩ := rng_grow r1 h2 h4
 obtain ⟨g2, _, _⟩ := rng_grow r2 h3 h5
 have hw := (rngOk_all r1).2.2.2.2
 rw [sealOk, g1, g2, headOk, nextHd, hw, inR_true.2 ⟨by show 0 ≤ h.num + 1; omega, by show h.num + 1 ≤ 399; omega⟩, root_fits g1, root_fits g2, sealFit, rrT, rrT, g1, g2, if_pos rfl, if_pos rfl]
 simp
theorem take_are {width : Int} {L : List ByteArray} (h : areH width L = true) (i : Nat) : areH width (L.take i) = true ∧ areH width (L.drop i) = true :=
 ⟨areH_of fun s hs => areH_mem h s (List.mem_of_mem_take hs), areH_of fun s hs => areH_mem h s (List.mem_of_mem_drop hs)⟩
theorem made_le {width z1 z2 : Int} {l1 l2 L T : List ByteArray} {h : Hd} (hq : smOk width z1 l1 z2 l2 h L T = true) :
  callsUp z1.toNat L.length + callsUp z2.toNat T.length + rngMade (smP width z1 l1 L) + rngMade (smP width z2 l2 T) ≤ L.length + T.length + 20 := by
 obtain ⟨h1, h2, h3, h4, h5, h6⟩ := smOk_all hq
 obtain ⟨r1, r2, n0, n1⟩ := sealOk_all h1
 have key : ∀ {z : Int} {l M : List ByteArray}, rngOk width z l = true → (M.length : Int) ≤ 512 - z → callsUp z.toNat M.length + rngMade (smP width z l M) ≤ M.length + 10 := by
  intro z l M hr hm
  obtain ⟨k1, k2, k3, k4, k5⟩ := rngOk_all hr
  have k7 : l.length = popN z.toNat := by rw [k3, ← popC_nat (by omega)]; congr 1; omega
  have k8 := growUp_len (width := width) (leaves := M) k7 (k := M.length) (by omega)
  have k9 := calls_pop z.toNat M.length (by omega)
  have k10 := popN_le z.toNat
  rw [rngMade, smP, k8]
  omega
 have j1 := key r1 h4
 have j2 := key r2 h5
 omega
end
section
open Go.RowKit
def nextOfM (l : List Ent) (t : ByteArray) : Int := if logOk l && nameOk t then (cnt l t : Nat) else -1
def lastTo (p : Ent → Bool) (l : List Ent) : Nat → Int
 | 0 => -1
 | k + 1 => if (l[k]?).any p then (k : Int) else lastTo p l k
theorem lastTo_hit {p : Ent → Bool} {l : List Ent} {k : Nat} {e : Ent} (h : l[k]? = some e) (hp : p e = true) : lastTo p l (k + 1) = k := by
 rw [lastTo, h, if_pos (by simpa using hp)]
def isTK (t k : ByteArray) (e : Ent) : Bool := (e.topic.toList == t.toList) && (e.key.toList == k.toList)
def latestOfM (l : List Ent) (t k : ByteArray) : Int := if logOk l then lastTo (isTK t k) l l.length else -1
def newEnt (l : List Ent) (t : ByteArray) (ti : Int) (k b : ByteArray) : Ent := ⟨t, (cnt l t : Nat), ti, k, b⟩
def addCode (l : List Ent) (t : ByteArray) (ti : Int) (k b : ByteArray) : Int := if nameOk t then (if partsOk ti k b then (if decide (512 ≤ l.length) then 4 else 0) else 3) else 2
def addL (l : List Ent) (t : ByteArray) (ti : Int) (k b : ByteArray) : List Ent := if addCode l t ti k b = 0 then l ++ [newEnt l t ti k b] else []
def addLeaf (l : List Ent) (t : ByteArray) (ti : Int) (k b : ByteArray) : Int := if addCode l t ti k b = 0 then (l.length : Nat) else 0
theorem addL_no {l : List Ent} {t : ByteArray} {ti : Int} {k b : ByteArray} {c : Int} (h : addCode l t ti k b = c) (hc : c ≠ 0) : addL l t ti k b = [] ∧ addLeaf l t ti k b = 0 := by
 rw [addL, addLeaf, h, if_neg hc, if_neg hc]; exact ⟨rfl, rfl⟩
theorem addL_yes {l : List Ent} {t : ByteArray} {ti : Int} {k b : ByteArray} (h : addCode l t ti k b = 0) : addL l t ti k b = l ++ [newEnt l t ti k b] ∧ addLeaf l t ti k b = (l.length : Nat) := by
 rw [addL, addLeaf, h, if_pos rfl, if_pos rfl]; exact ⟨rfl, rfl⟩
theorem entryOk_0 {t k b : ByteArray} {ti : Int} (h : nameOk t = true) : entryOk ⟨t, 0, ti, k, b⟩ = partsOk ti k b := by
 rw [entryOk, h]; rfl
theorem ent_fits {t k b : ByteArray} {i ti : Int} (h1 : t.size ≤ 1048576) (hi : I64 i) (hti : I64 ti) (h2 : k.size ≤ 1048576) (h3 : b.size ≤ 1048576) : Ent.fits ⟨t, i, ti, k, b⟩ :=
 ⟨hi, hti, Nat.le_trans h1 (by unfold maxLen; omega), Nat.le_trans h2 (by unfold maxLen; omega), Nat.le_trans h3 (by unfold maxLen; omega)⟩
theorem ents_app (a b : List Ent) : ents (a ++ b) = ents a ++ ents b := by rw [ents, List.flatMap_append]; rfl
set_option maxRecDepth 100000 in
theorem l09Add_c (A : Option Addr) (c lo hi n : Nat) (l : List Ent) (t : ByteArray) (ti : Int) (k b : ByteArray) (w : World) (hr : Rd w lo hi A (ents l)) (hn : l.length = n) (hl : n ≤ 512) (hA : A = none → c = 0)
  (ht : t.size ≤ 1048576) (hti : I64 ti) (hk : k.size ≤ 1048576) (hb : b.size ≤ 1048576) :
  Calls Tryz.prog 107 #[.agg #[.slice A n c], .string t, .int .i64 ti, .string k, .string b] w fun e w' => ∃ (A' : Option Addr) (c' : Nat), e = .returned (.tuple #[.agg #[.slice A' (addL l t ti k b).length c'], .int .i64 (addLeaf l t ti k b), .int .i64 (addCode l t ti k b)]) ∧
   ((A' = none → c' = 0) ∧ (addL l t ti k b).length ≤ c') ∧ Own w' w.heap.size w'.heap.size A' (ents (addL l t ti k b)) ∧ Below w.heap.size w w' := by
 have HN := lH hn
 have HI := lH hti
 clear hn hti
 go_enter Tryz.func107, Tryz.ntmps107
 have HB : Hid (Below w.heap.size w w) := Below.refl _ _
 have HOA : Hid (Rd w (0) (w.heap.size) (A) (ents l)) := Rd.base hr
 clear hr
 go_wp2_with fail
 refine calls_named (fun w1 hw => ?_)
 have hz1 : w.heap.size + 2 ≤ w1.heap.size := by rw [hw]; first | omega | simp [World.setCell] <;> omega
 have hzz1 : w.heap.size ≤ w1.heap.size := by omega
 have hbn : Below w.heap.size w w1 := by rw [hw]; exact (by repeat with_reducible first | exact bR _ | apply bA | apply bD)
 replace HB := lH (below_then HB.out hbn HB.out.size)
 replace HOA := lH (HOA.out.below hbn)
 clear hbn
 have HXl0 : Hid (NewBox w1 (w.heap.size) [.slice A n c]) := by rw [Hid, hw]; exact ⟨by first | omega | (simp [World.setCell]; done) | (simp [World.setCell]; omega), fun o => by rcases o with _ | o <;> go_simp, fun o => by go_simp⟩
 obtain ⟨hkl0, hxl0, hfl0⟩ := HXl0.out
 have HXr0 : Hid (NewBox w1 (w.heap.size + 1) [.slice none 0 0]) := by rw [Hid, hw]; exact ⟨by first | omega | (simp [World.setCell]; done) | (simp [World.setCell]; omega), fun o => by rcases o with _ | o <;> go_simp, fun o => by go_simp⟩
 obtain ⟨hkr0, hxr0, hfr0⟩ := HXr0.out
 clear hw
 refine (specNameOk_c t _ (by unfold maxLen; omega)).mono ?_
 rintro e w2_ ⟨rfl, rfl⟩
 rcases h1 : nameOk t with _ | _
 ·have hc : Hid (addCode l t ti k b = 2) := by rw [Hid, addCode, h1]; rfl
  clear h1
  go_wp2
  refine bodyPost_ret (v := .tuple #[.agg #[.slice none 0 0], .int .i64 0, .int .i64 2]) (by simp [results, Tryz.results107, go_sem, World.cell?_setCell_same _ _ _ (HXr0.out.cell (o := 0) rfl)]) rfl ?_
  exact ⟨none, 0, by rw [hc.out, (addL_no hc.out (by decide)).1, (addL_no hc.out (by decide)).2]; rfl, ⟨fun _ => rfl, by rw [(addL_no hc.out (by decide)).1]; exact Nat.zero_le _⟩, by rw [(addL_no hc.out (by decide)).1]; exact Own.nil, (by ((repeat first | with_reducible apply bA | with_reducible apply bD | (with_reducible refine bS ?_ ?_; (focus (first | omega | (simp; done) | (simp; omega))))); exact HB.out))⟩
 ·have H1 := lH h1
  have hE := lH (entryOk_0 (k := k) (b := b) (ti := ti) h1)
  clear h1
  go_wp2_with fail
  refine calls_named (fun w3 hw => ?_)
  have hz3 : w1.heap.size + 0 ≤ w3.heap.size := by rw [hw]; first | omega | simp [World.setCell] <;> omega
  have hzz3 : w.heap.size ≤ w3.heap.size := by omega
  have hbn : Below w1.heap.size w1 w3 := by rw [hw]; exact (by repeat with_reducible first | exact bR _ | apply bA | apply bD)
  replace HB := lH (below_then HB.out hbn HB.out.size)
  replace HOA := lH (HOA.out.below hbn)
  replace HXl0 := lH (HXl0.out.below hbn)
  clear hxl0 hfl0 hkl0
  obtain ⟨hkl0, hxl0, hfl0⟩ := HXl0.out
  replace HXr0 := lH (HXr0.out.below hbn)
  clear hxr0 hfr0 hkr0
  obtain ⟨hkr0, hxr0, hfr0⟩ := HXr0.out
  clear hbn
  clear hw
  refine (specEntryOk_c ⟨t, 0, ti, k, b⟩ _ (ent_fits ht ⟨by decide, by decide⟩ HI.out hk hb)).mono ?_
  rintro e w4 ⟨rfl, hb⟩
  have hzw4 : w3.heap.size ≤ w4.heap.size := hb.size
  have hzzw4 : w.heap.size ≤ w4.heap.size := by omega
  replace HB := lH (below_then HB.out hb HB.out.size)
  replace HOA := lH (HOA.out.below hb)
  replace HXl0 := lH (HXl0.out.below hb)
  clear hxl0 hfl0 hkl0
  obtain ⟨hkl0, hxl0, hfl0⟩ := HXl0.out
  replace HXr0 := lH (HXr0.out.below hb)
  clear hxr0 hfr0 hkr0
  obtain ⟨hkr0, hxr0, hfr0⟩ := HXr0.out
  clear hb
  rw [hE.out]
  rcases h2 : partsOk ti k b with _ | _
  ·have hc : Hid (addCode l t ti k b = 3) := by rw [Hid, addCode, H1.out, h2]; rfl
   clear h2
   go_wp2
   refine bodyPost_ret (v := .tuple #[.agg #[.slice none 0 0], .int .i64 0, .int .i64 3]) (by simp [results, Tryz.results107, go_sem, World.cell?_setCell_same _ _ _ (HXr0.out.cell (o := 0) rfl)]) rfl ?_
   exact ⟨none, 0, by rw [hc.out, (addL_no hc.out (by decide)).1, (addL_no hc.out (by decide)).2]; rfl, ⟨fun _ => rfl, by rw [(addL_no hc.out (by decide)).1]; exact Nat.zero_le _⟩, by rw [(addL_no hc.out (by decide)).1]; exact Own.nil, (by ((repeat first | with_reducible apply bA | with_reducible apply bD | (with_reducible refine bS ?_ ?_; (focus (first | omega | (simp; done) | (simp; omega))))); exact HB.out))⟩
  ·have H2 := lH h2
   clear h2
   rcases (show n = 512 ∨ n < 512 by omega) with h3 | h3
   ·have hc : Hid (addCode l t ti k b = 4) := by rw [Hid, addCode, H1.out, H2.out, HN.out, h3]; rfl
    subst h3
    go_wp2
    refine bodyPost_ret (v := .tuple #[.agg #[.slice none 0 0], .int .i64 0, .int .i64 4]) (by simp [results, Tryz.results107, go_sem, World.cell?_setCell_same _ _ _ (HXr0.out.cell (o := 0) rfl)]) rfl ?_
    exact ⟨none, 0, by rw [hc.out, (addL_no hc.out (by decide)).1, (addL_no hc.out (by decide)).2]; rfl, ⟨fun _ => rfl, by rw [(addL_no hc.out (by decide)).1]; exact Nat.zero_le _⟩, by rw [(addL_no hc.out (by decide)).1]; exact Own.nil, (by ((repeat first | with_reducible apply bA | with_reducible apply bD | (with_reducible refine bS ?_ ?_; (focus (first | omega | (simp; done) | (simp; omega))))); exact HB.out))⟩
   ·have hc : Hid (addCode l t ti k b = 0) := by rw [Hid, addCode, H1.out, H2.out, HN.out]; simp; omega
    have hq : ((n : Int) == 512) = false := by rw [beq_eq_false_iff_ne]; omega
    go_wp2_with fail
    refine (l09Count_c A c _ _ n l t _ HOA.out HN.out (by omega)).mono ?_
    rintro e w5_ ⟨rfl, rfl⟩
    go_wp2_with fail
    refine wp_named (fun w6 hw => ?_)
    have hz6 : w4.heap.size + 1 ≤ w6.heap.size := by rw [hw]; first | omega | simp [World.setCell] <;> omega
    have hzz6 : w.heap.size ≤ w6.heap.size := by omega
    have hbn : Below w4.heap.size w4 w6 := by rw [hw]; exact (by repeat with_reducible first | exact bR _ | apply bA | apply bD)
    replace HB := lH (below_then HB.out hbn HB.out.size)
    replace HOA := lH (HOA.out.below hbn)
    replace HXl0 := lH (HXl0.out.below hbn)
    clear hxl0 hfl0 hkl0
    obtain ⟨hkl0, hxl0, hfl0⟩ := HXl0.out
    replace HXr0 := lH (HXr0.out.below hbn)
    clear hxr0 hfr0 hkr0
    obtain ⟨hkr0, hxr0, hfr0⟩ := HXr0.out
    clear hbn
    have HXe : Hid (NewBox w6 (w4.heap.size) [.string t, .int .i64 (cnt l t : Nat), .int .i64 ti, .string k, .string b]) := by rw [Hid, hw]; exact ⟨by first | omega | (simp [World.setCell]; done) | (simp [World.setCell]; omega), fun o => by rcases o with _ | _ | _ | _ | _ | o <;> go_simp, fun o => by go_simp⟩
    obtain ⟨hke, hxe, hfe⟩ := HXe.out
    clear hw
    obtain ⟨F, HF⟩ : ∃ F : Facts, Hid (F = fun iq xq tqs dsq uq => match iq with
     | 0 => xq.v = .slice (some ⟨xq.s, 0, none⟩) 0 0 ∧ RowIn (inG xq []) uq 41 5 (.slice (some ⟨xq.s, 0, none⟩) 0 0) 0 []
     | 1 => xq.v = .pointer (some ⟨(w.heap.size), 0, none⟩)
     | 2 => xq.v = .slice A n c
     | 3 => (match tqs, dsq with | [tq0], [] => ∃ (A3 : Option Addr) (c3 : Nat), xq.v = .slice A3 n c3 ∧ RowIn (inG xq [tq0]) uq 41 5 (.slice A3 n c3) (n) (ents l) | _, _ => False)
     | 4 => xq.v = .agg #[.string t, .int .i64 (cnt l t : Nat), .int .i64 ti, .string k, .string b]
     | 5 => xq.v = .slice (some ⟨xq.s, 0, none⟩) 1 1 ∧ xq.s < xq.e ∧ NewBox uq xq.s (ents [(newEnt l t ti k b)])
     | 6 => (match tqs, dsq with | [tq0, tq1], [] => ∃ (A4 : Option Addr) (c4 : Nat), xq.v = .slice A4 (n + 1) c4 ∧ RowIn (inG xq [tq0, tq1]) uq 41 5 (.slice A4 (n + 1) c4) ((n + 1)) ((ents l ++ ents [newEnt l t ti k b])) | _, _ => False)
     | 7 => (match tqs, dsq with | [], [yq0] => ∃ (A4 : Option Addr) (c4 : Nat), yq0.v = .slice A4 (n + 1) c4 ∧ xq.v = .agg #[.slice A4 (n + 1) c4] | _, _ => False)
     | 8 => xq.v = .pointer (some ⟨(w.heap.size), 0, none⟩)
     | 9 => xq.v = .slice A n c
     | 10 => xq.v = .int .i64 (n : Nat)
     | 11 => (match tqs, dsq with | [], [yq0] => ∃ (A4 : Option Addr) (c4 : Nat), yq0.v = .slice A4 (n + 1) c4 ∧ NewBox uq (w.heap.size + 1) [.slice A4 (n + 1) c4] | _, _ => False)
     | 12 => xq.v = .int .i64 (n : Nat)
     | 13 => xq.v = .int .i64 0
     | _ => False) := ⟨_, rfl⟩
    refine wp_region_facts [[], [], [], [], [], [], [], [6], [], [], [], [6], [], []] [[], [], [], [0], [], [], [3, 0], [], [], [], [], [], [], []] [some 40, some 41, some 42, some 43, some 44, some 45, some 46, some 47, some 48, some 49, some 50, none, some 11, some 12] (some 11) (w.heap.size + 1) (w.heap.size + 1 + 1) (.inr (by omega)) F (by kernel_rfl) (by kernel_rfl) (by kernel_rfl) ?_ ⟨?_, ?_, ?_, ?_, ?_, ?_, ?_, ?_, ?_, ?_, ?_, ?_, ?_, ?_, trivial⟩ ?_
    ·rw [HF.out]; intro iq xq tqs dsq uq u' hi hf hs hW hx hbk
     have kx : ∀ b, xq.s ≤ b → b < xq.e → u'.heap[b]? = uq.heap[b]? := fun b h1 h2 => hbk b (.inr (.inl ⟨h1, h2⟩))
     have kt : ∀ t ∈ tqs, ∀ b, t.s ≤ b → b < t.e → u'.heap[b]? = uq.heap[b]? := fun t ht b h1 h2 => hbk b (.inr (.inr ⟨t, ht, h1, h2⟩))
     match iq with
     | 0 => exact ⟨hf.1, hf.2.keep (fun k hk => hk.elim (fun h => kx k h.1 h.2) (fun ⟨t, ht, _⟩ => by cases ht))⟩
     | 1 => exact hf
     | 2 => exact hf
     | 3 => match tqs, dsq, hf with | [tq0], [], hf => obtain ⟨A3, c3, hv, p0⟩ := hf; exact ⟨A3, c3, hv, p0.keep (fun k hk => hk.elim (fun h => kx k h.1 h.2) (fun ⟨t, ht, h⟩ => kt t ht k h.1 h.2))⟩
     | 4 => exact hf
     | 5 => obtain ⟨h1, h2, hb⟩ := hf; exact ⟨h1, h2, hb.keep hs (kx _ (Nat.le_refl _) h2)⟩
     | 6 => match tqs, dsq, hf with | [tq0, tq1], [], hf => obtain ⟨A4, c4, hv, p0⟩ := hf; exact ⟨A4, c4, hv, p0.keep (fun k hk => hk.elim (fun h => kx k h.1 h.2) (fun ⟨t, ht, h⟩ => kt t ht k h.1 h.2))⟩
     | 7 => exact hf
     | 8 => exact hf
     | 9 => exact hf
     | 10 => exact hf
     | 11 => match tqs, dsq, hf with | [], [yq0], hf => obtain ⟨A4, c4, hvr6, hb⟩ := hf; exact ⟨A4, c4, hvr6, hb.keep hs (hbk _ (.inl ⟨hkr0, .inr (.inr rfl)⟩))⟩
     | 12 => exact hf
     | 13 => exact hf
    ·intro gh ρ u hc hf1 hg1 hd h0 hb he ha hF
     first | (replace hb : Below w6.heap.size w6 u := hb.drew.below (by decide +kernel)) | (replace hb : Only (w.heap.size + 1) (w.heap.size + 1 + 1) w6 u := hb.drew.only)
     have hbz : w6.heap.size ≤ u.heap.size := hb.size
     clear  hd h0 he ha hF
     go_simp
     rw [HF.out]
     exact ⟨OnlyL.of_below ((Below.refl _ _).alloc (Nat.le_refl _) _), rfl, RowIn.made _ _ _ _ (.inl ⟨Nat.le_refl _, by simp⟩)⟩
    ·intro gh ρ u hc hf1 hg1 hd h0 hb he ha hF
     have r5 : ρ (.tmp 5) = .pointer (some ⟨w.heap.size, 0, none⟩) := (h0 5 (by decide +kernel)).trans rfl
     clear  hd h0 he ha hF
     go_simp
     rw [HF.out]
     exact ⟨OnlyL.refl _ _, rfl⟩
    ·intro gh ρ u hc hf1 hg1 hd h0 hb he ha hF
     first | (replace hb : Below w6.heap.size w6 u := hb.drew.below (by decide +kernel)) | (replace hb : Only (w.heap.size + 1) (w.heap.size + 1 + 1) w6 u := hb.drew.only)
     have hbz : w6.heap.size ≤ u.heap.size := hb.size
     have r41 : ρ (.tmp 41) = .pointer (some ⟨(w.heap.size), 0, none⟩) := by have h := hF 1 (by decide +kernel) (by decide +kernel); rw [HF.out] at h; exact (hd 1 (by decide +kernel) 41 (by kernel_rfl)).trans h
     have q_l0 : ∀ o, u.cell? ⟨w.heap.size, o, none⟩ = [.slice A n c][o]? := by first | exact (HXl0.out.below hb).2.1 | exact (HXl0.out.only hb (by omega)).2.1
     have k_l0 : w.heap.size < u.heap.size := by have := HXl0.out.1; omega
     have q_e : ∀ o, u.cell? ⟨w4.heap.size, o, none⟩ = [.string t, .int .i64 (cnt l t : Nat), .int .i64 ti, .string k, .string b][o]? := by first | exact (HXe.out.below hb).2.1 | exact (HXe.out.only hb (by omega)).2.1
     have k_e : w4.heap.size < u.heap.size := by have := HXe.out.1; omega
     clear  hd h0 he ha hF
     go_simp
     rw [HF.out]
     exact ⟨OnlyL.refl _ _, rfl⟩
    ·intro gh ρ u hc hf1 hg1 hd h0 hb he ha hF
     first | (replace hb : Below w6.heap.size w6 u := hb.drew.below (by decide +kernel)) | (replace hb : Only (w.heap.size + 1) (w.heap.size + 1 + 1) w6 u := hb.drew.only)
     have hbz : w6.heap.size ≤ u.heap.size := hb.size
     have f0 : (gh 0).v = .slice (some ⟨(gh 0).s, 0, none⟩) 0 0 ∧ RowIn (inG (gh 0) []) u 41 5 (.slice (some ⟨(gh 0).s, 0, none⟩) 0 0) 0 [] := by have h := hF 0 (by decide +kernel) (by decide +kernel); rw [HF.out] at h; exact h
     obtain ⟨hv0, hrow0⟩ := f0
     have r40 : ρ (.tmp 40) = .slice (some ⟨(gh 0).s, 0, none⟩) 0 0 := (hd 0 (by decide +kernel) 40 (by kernel_rfl)).trans hv0
     have r42 : ρ (.tmp 42) = .slice A n c := by have h := hF 2 (by decide +kernel) (by decide +kernel); rw [HF.out] at h; exact (hd 2 (by decide +kernel) 42 (by kernel_rfl)).trans h
     clear hv0 hd h0 he ha hF
     refine gappEnt _ _ rfl _ (0) ([]) r40 hrow0 A n c _ _ l r42 HN.out (HOA.out.below hb) hA (by omega) ?_
     intro A' c' u' hrow hlt hg
     rw [HF.out]
     have hS : ∀ k, inG (gh 0) [] k → ∃ z ∈ ([0] : List Nat), (gh z).s ≤ k ∧ k < (gh z).e := by
      rintro k (h | ⟨t, ht, h⟩)
      ·exact ⟨0, by decide, h⟩
      ·cases ht
     refine ⟨⟨hg.os, hg.tape, hg.output, hg.size, fun k hk hd' _ => hg.block k hk (fun e => ?_)⟩, A', c', by rw [Nat.zero_add], ?_⟩
     ·obtain ⟨z, hz, h1, h2⟩ := hS k (hrow0.at_ k e.symm); have := hd' (gh z) (List.mem_map.2 ⟨z, hz, rfl⟩); omega
     ·rw [Nat.zero_add, List.nil_append] at hrow; rw [Nat.zero_add] at hlt; exact RowIn.widen hrow (fun k hk => .inr (let ⟨z, hz, h⟩ := hS k hk; ⟨gh z, List.mem_map.2 ⟨z, hz, rfl⟩, h⟩)) (fun e => .inl ⟨Nat.le_refl _, hlt _ e⟩)
    ·intro gh ρ u hc hf1 hg1 hd h0 hb he ha hF
     first | (replace hb : Below w6.heap.size w6 u := hb.drew.below (by decide +kernel)) | (replace hb : Only (w.heap.size + 1) (w.heap.size + 1 + 1) w6 u := hb.drew.only)
     have hbz : w6.heap.size ≤ u.heap.size := hb.size
     have r13 : ρ (.tmp 13) = .pointer (some ⟨w4.heap.size, 0, none⟩) := (h0 13 (by decide +kernel)).trans rfl
     have q_l0 : ∀ o, u.cell? ⟨w.heap.size, o, none⟩ = [.slice A n c][o]? := by first | exact (HXl0.out.below hb).2.1 | exact (HXl0.out.only hb (by omega)).2.1
     have k_l0 : w.heap.size < u.heap.size := by have := HXl0.out.1; omega
     have q_e : ∀ o, u.cell? ⟨w4.heap.size, o, none⟩ = [.string t, .int .i64 (cnt l t : Nat), .int .i64 ti, .string k, .string b][o]? := by first | exact (HXe.out.below hb).2.1 | exact (HXe.out.only hb (by omega)).2.1
     have k_e : w4.heap.size < u.heap.size := by have := HXe.out.1; omega
     clear  hd h0 he ha hF
     go_simp
     rw [HF.out]
     exact ⟨OnlyL.refl _ _, rfl⟩
    ·intro gh ρ u hc hf1 hg1 hd h0 hb he ha hF
     first | (replace hb : Below w6.heap.size w6 u := hb.drew.below (by decide +kernel)) | (replace hb : Only (w.heap.size + 1) (w.heap.size + 1 + 1) w6 u := hb.drew.only)
     have hbz : w6.heap.size ≤ u.heap.size := hb.size
     have r44 : ρ (.tmp 44) = .agg #[.string t, .int .i64 (cnt l t : Nat), .int .i64 ti, .string k, .string b] := by have h := hF 4 (by decide +kernel) (by decide +kernel); rw [HF.out] at h; exact (hd 4 (by decide +kernel) 44 (by kernel_rfl)).trans h
     clear  hd h0 he ha hF
     go_simp
     rw [HF.out]
     exact ⟨OnlyL.of_below ((Below.refl _ _).alloc (Nat.le_refl _) _), rfl, by simp, NewBox.new _ _ _⟩
    ·intro gh ρ u hc hf1 hg1 hd h0 hb he ha hF
     first | (replace hb : Below w6.heap.size w6 u := hb.drew.below (by decide +kernel)) | (replace hb : Only (w.heap.size + 1) (w.heap.size + 1 + 1) w6 u := hb.drew.only)
     have hbz : w6.heap.size ≤ u.heap.size := hb.size
     have f3 : ∃ (A3 : Option Addr) (c3 : Nat), (gh 3).v = .slice A3 n c3 ∧ RowIn (inG (gh 3) [(gh 0)]) u 41 5 (.slice A3 n c3) (n) (ents l) := by have h := hF 3 (by decide +kernel) (by decide +kernel); rw [HF.out] at h; exact h
     obtain ⟨A3, c3, hv3, hrow3⟩ := f3
     have r43 : ρ (.tmp 43) = .slice A3 n c3 := (hd 3 (by decide +kernel) 43 (by kernel_rfl)).trans hv3
     have f5 : (gh 5).v = .slice (some ⟨(gh 5).s, 0, none⟩) 1 1 ∧ (gh 5).s < (gh 5).e ∧ NewBox u (gh 5).s (ents [(newEnt l t ti k b)]) := by have h := hF 5 (by decide +kernel) (by decide +kernel); rw [HF.out] at h; exact h
     obtain ⟨hv5, hlt5, hnb5⟩ := f5
     have r45 : ρ (.tmp 45) = .slice (some ⟨(gh 5).s, 0, none⟩) 1 1 := (hd 5 (by decide +kernel) 45 (by kernel_rfl)).trans hv5
     clear hv3 hv5 hd h0 he ha hF
     refine gapp1Ent _ _ rfl _ (n) (ents l) r43 hrow3 _ (newEnt l t ti k b) r45 hnb5 (by omega) ?_
     intro A' c' u' hrow hlt hg
     rw [HF.out]
     have hS : ∀ k, inG (gh 3) [gh 0] k → ∃ z ∈ ([3, 0] : List Nat), (gh z).s ≤ k ∧ k < (gh z).e := by
      rintro k (h | ⟨t, ht, h⟩)
      ·exact ⟨3, by decide, h⟩
      ·simp only [List.mem_cons, List.not_mem_nil, or_false] at ht
       rcases ht with rfl
       ·exact ⟨0, by decide, h⟩
     refine ⟨⟨hg.os, hg.tape, hg.output, hg.size, fun k hk hd' _ => hg.block k hk (fun e => ?_)⟩, A', c', rfl, ?_⟩
     ·obtain ⟨z, hz, h1, h2⟩ := hS k (hrow3.at_ k e.symm); have := hd' (gh z) (List.mem_map.2 ⟨z, hz, rfl⟩); omega
     ·exact RowIn.widen hrow (fun k hk => .inr (let ⟨z, hz, h⟩ := hS k hk; ⟨gh z, List.mem_map.2 ⟨z, hz, rfl⟩, h⟩)) (fun e => .inl ⟨Nat.le_refl _, hlt _ e⟩)
    ·intro gh ρ u hc hf1 hg1 hd h0 hb he ha hF
     have f6 : ∃ (A4 : Option Addr) (c4 : Nat), (gh 6).v = .slice A4 (n + 1) c4 ∧ RowIn (inG (gh 6) [(gh 3), (gh 0)]) u 41 5 (.slice A4 (n + 1) c4) ((n + 1)) ((ents l ++ ents [newEnt l t ti k b])) := by have h := hF 6 (by decide +kernel) (by decide +kernel); rw [HF.out] at h; exact h
     obtain ⟨A4, c4, hv6, hrow6⟩ := f6
     have hrt6 := hv6
     have r46 : ρ (.tmp 46) = .slice A4 (n + 1) c4 := (hd 6 (by decide +kernel) 46 (by kernel_rfl)).trans hv6
     have HRT6 := lH hrt6
     clear hv6 hrt6 hd h0 he ha hF
     go_simp
     rw [HF.out]
     exact ⟨OnlyL.refl _ _, A4, c4, HRT6.out, rfl⟩
    ·intro gh ρ u hc hf1 hg1 hd h0 hb he ha hF
     have r5 : ρ (.tmp 5) = .pointer (some ⟨w.heap.size, 0, none⟩) := (h0 5 (by decide +kernel)).trans rfl
     clear  hd h0 he ha hF
     go_simp
     rw [HF.out]
     exact ⟨OnlyL.refl _ _, rfl⟩
    ·intro gh ρ u hc hf1 hg1 hd h0 hb he ha hF
     first | (replace hb : Below w6.heap.size w6 u := hb.drew.below (by decide +kernel)) | (replace hb : Only (w.heap.size + 1) (w.heap.size + 1 + 1) w6 u := hb.drew.only)
     have hbz : w6.heap.size ≤ u.heap.size := hb.size
     have r48 : ρ (.tmp 48) = .pointer (some ⟨(w.heap.size), 0, none⟩) := by have h := hF 8 (by decide +kernel) (by decide +kernel); rw [HF.out] at h; exact (hd 8 (by decide +kernel) 48 (by kernel_rfl)).trans h
     have q_l0 : ∀ o, u.cell? ⟨w.heap.size, o, none⟩ = [.slice A n c][o]? := by first | exact (HXl0.out.below hb).2.1 | exact (HXl0.out.only hb (by omega)).2.1
     have k_l0 : w.heap.size < u.heap.size := by have := HXl0.out.1; omega
     have q_e : ∀ o, u.cell? ⟨w4.heap.size, o, none⟩ = [.string t, .int .i64 (cnt l t : Nat), .int .i64 ti, .string k, .string b][o]? := by first | exact (HXe.out.below hb).2.1 | exact (HXe.out.only hb (by omega)).2.1
     have k_e : w4.heap.size < u.heap.size := by have := HXe.out.1; omega
     clear  hd h0 he ha hF
     go_simp
     rw [HF.out]
     exact ⟨OnlyL.refl _ _, rfl⟩
    ·intro gh ρ u hc hf1 hg1 hd h0 hb he ha hF
     have r49 : ρ (.tmp 49) = .slice A n c := by have h := hF 9 (by decide +kernel) (by decide +kernel); rw [HF.out] at h; exact (hd 9 (by decide +kernel) 49 (by kernel_rfl)).trans h
     clear  hd h0 he ha hF
     go_simp
     rw [HF.out]
     exact ⟨OnlyL.refl _ _, rfl⟩
    ·intro gh ρ u hc hf1 hg1 hd h0 hb he ha hF
     first | (replace hb : Below w6.heap.size w6 u := hb.drew.below (by decide +kernel)) | (replace hb : Only (w.heap.size + 1) (w.heap.size + 1 + 1) w6 u := hb.drew.only)
     have hbz : w6.heap.size ≤ u.heap.size := hb.size
     have r10 : ρ (.tmp 10) = .pointer (some ⟨w.heap.size + 1, 0, none⟩) := (h0 10 (by decide +kernel)).trans rfl
     have f7 : ∃ (A4 : Option Addr) (c4 : Nat), (gh 6).v = .slice A4 (n + 1) c4 ∧ (gh 7).v = .agg #[.slice A4 (n + 1) c4] := by have h := hF 7 (by decide +kernel) (by decide +kernel); rw [HF.out] at h; exact h
     obtain ⟨A4, c4, hrt6, hv7⟩ := f7
     have r47 : ρ (.tmp 47) = .agg #[.slice A4 (n + 1) c4] := (hd 7 (by decide +kernel) 47 (by kernel_rfl)).trans hv7
     have HRT6 := lH hrt6
     obtain ⟨hzk, hzc, hzf⟩ := HXr0.out.below hb
     clear hv7 hrt6 hd h0 he ha hF
     go_simp
     rw [HF.out]
     refine ⟨?_, A4, c4, HRT6.out, ?_⟩
     ·refine OnlyL.of_z (lo := w.heap.size + 1) (hi := w.heap.size + 1 + 1) ?_ rfl; refine Only.setCell ?_ (by exact Nat.le_refl _) (by exact Nat.lt_succ_self _) _; exact Only.refl _ _ _
     ·show NewBox _ (w.heap.size + 1) _
      exact ⟨by simpa [World.setCell] using hzk, fun o => by rcases o with _ | o <;> go_simp, fun o => by go_simp⟩
    ·intro gh ρ u hc hf1 hg1 hd h0 hb he ha hF
     have r50 : ρ (.tmp 50) = .int .i64 (n : Nat) := by have h := hF 10 (by decide +kernel) (by decide +kernel); rw [HF.out] at h; exact (hd 10 (by decide +kernel) 50 (by kernel_rfl)).trans h
     clear  hd h0 he ha hF
     go_simp
     rw [HF.out]
     exact ⟨OnlyL.refl _ _, rfl⟩
    ·intro gh ρ u hc hf1 hg1 hd h0 hb he ha hF
     clear  hd h0 he ha hF
     go_simp
     rw [HF.out]
     exact ⟨OnlyL.refl _ _, rfl⟩
    intro gh w7 hB hE hA hF
    replace hB : Only (w.heap.size + 1) (w.heap.size + 1 + 1) w6 w7 := hB.only
    have f1 : (gh 1).v = .pointer (some ⟨(w.heap.size), 0, none⟩) := by have h := hF 1 (by decide +kernel) (by decide +kernel); rw [HF.out] at h; exact h
    have f2 : (gh 2).v = .slice A n c := by have h := hF 2 (by decide +kernel) (by decide +kernel); rw [HF.out] at h; exact h
    have f4 : (gh 4).v = .agg #[.string t, .int .i64 (cnt l t : Nat), .int .i64 ti, .string k, .string b] := by have h := hF 4 (by decide +kernel) (by decide +kernel); rw [HF.out] at h; exact h
    have f5 : (gh 5).v = .slice (some ⟨(gh 5).s, 0, none⟩) 1 1 ∧ (gh 5).s < (gh 5).e ∧ NewBox w7 (gh 5).s (ents [(newEnt l t ti k b)]) := by have h := hF 5 (by decide +kernel) (by decide +kernel); rw [HF.out] at h; exact h
    have f6 : ∃ (A4 : Option Addr) (c4 : Nat), (gh 6).v = .slice A4 (n + 1) c4 ∧ RowIn (inG (gh 6) [(gh 3), (gh 0)]) w7 41 5 (.slice A4 (n + 1) c4) ((n + 1)) ((ents l ++ ents [newEnt l t ti k b])) := by have h := hF 6 (by decide +kernel) (by decide +kernel); rw [HF.out] at h; exact h
    have f7 : ∃ (A4 : Option Addr) (c4 : Nat), (gh 6).v = .slice A4 (n + 1) c4 ∧ (gh 7).v = .agg #[.slice A4 (n + 1) c4] := by have h := hF 7 (by decide +kernel) (by decide +kernel); rw [HF.out] at h; exact h
    have f8 : (gh 8).v = .pointer (some ⟨(w.heap.size), 0, none⟩) := by have h := hF 8 (by decide +kernel) (by decide +kernel); rw [HF.out] at h; exact h
    have f9 : (gh 9).v = .slice A n c := by have h := hF 9 (by decide +kernel) (by decide +kernel); rw [HF.out] at h; exact h
    have f10 : (gh 10).v = .int .i64 (n : Nat) := by have h := hF 10 (by decide +kernel) (by decide +kernel); rw [HF.out] at h; exact h
    have f11 : ∃ (A4 : Option Addr) (c4 : Nat), (gh 6).v = .slice A4 (n + 1) c4 ∧ NewBox w7 (w.heap.size + 1) [.slice A4 (n + 1) c4] := by have h := hF 11 (by decide +kernel) (by decide +kernel); rw [HF.out] at h; exact h
    have f12 : (gh 12).v = .int .i64 (n : Nat) := by have h := hF 12 (by decide +kernel) (by decide +kernel); rw [HF.out] at h; exact h
    have f13 : (gh 13).v = .int .i64 0 := by have h := hF 13 (by decide +kernel) (by decide +kernel); rw [HF.out] at h; exact h
    obtain ⟨A4, c4, hv6, hrow6⟩ := f6
    have hv1 := f1
    have hv2 := f2
    have hv4 := f4
    obtain ⟨hv5, -⟩ := f5
    obtain ⟨A4_7, c4_7, hu6, hv7⟩ := f7
    replace hu6 := hv6.symm.trans hu6
    simp at hu6
    try simp only [and_assoc] at hu6
    obtain ⟨rfl, rfl⟩ := hu6
    have hv8 := f8
    have hv9 := f9
    have hv10 := f10
    obtain ⟨A4_11, c4_11, hu6, hx11⟩ := f11
    replace hu6 := hv6.symm.trans hu6
    simp at hu6
    try simp only [and_assoc] at hu6
    obtain ⟨rfl, rfl⟩ := hu6
    have hv12 := f12
    have hv13 := f13
    obtain ⟨hs0, hse0, he0⟩ := hE 0 (by decide +kernel)
    obtain ⟨hs3, hse3, he3⟩ := hE 3 (by decide +kernel)
    obtain ⟨hs6, hse6, he6⟩ := hE 6 (by decide +kernel)
    have hdj7_0_3 := hA 0 (by decide +kernel) 3 (by decide +kernel) (by decide)
    have hdj7_0_6 := hA 0 (by decide +kernel) 6 (by decide +kernel) (by decide)
    have hdj7_3_6 := hA 3 (by decide +kernel) 6 (by decide +kernel) (by decide)
    change w6.heap.size ≤ _ at hs0 hs3 hs6
    have hS : ∀ k, inG (gh 6) [gh 3, gh 0] k → w6.heap.size ≤ k ∧ k < w7.heap.size := by
     rintro k (h | ⟨t, ht, h⟩)
     ·omega
     ·simp only [List.mem_cons, List.not_mem_nil, or_false] at ht
      rcases ht with rfl | rfl <;> omega
    have hrwr := hrow6.row
    obtain ⟨hrcr, hrnr, hror⟩ := hrow6.own hS (Nat.le_refl _)
    clear hS hrow6
    clear hE hA hF
    generalize (gh 0).v = vq0 at *
    generalize (gh 3).v = vq3 at *
    simp only [putDs, Nat.reduceAdd, hv1, hv2, hv4, hv5, hv6, hv7, hv8, hv9, hv10, hv12, hv13]
    clear hv1 hv2 hv4 hv5 hv6 hv7 hv8 hv9 hv10 hv12 hv13
    generalize (gh 0).s = s7_0 at *
    generalize (gh 0).e = e7_0 at *
    generalize (gh 3).s = s7_3 at *
    generalize (gh 3).e = e7_3 at *
    generalize (gh 6).s = s7_6 at *
    generalize (gh 6).e = e7_6 at *
    clear HF
    have hb := hB
    clear hB
    have hzw7 : w6.heap.size ≤ w7.heap.size := hb.size
    have hzzw7 : w.heap.size ≤ w7.heap.size := by omega
    replace HB := lH (below_only HB.out hb (by omega) HB.out.size)
    replace HOA := lH (HOA.out.only hb (by first | omega | (simp; omega)))
    replace HXl0 := lH (HXl0.out.only hb (by first | omega | (simp; omega)))
    clear hxl0 hfl0 hkl0
    obtain ⟨hkl0, hxl0, hfl0⟩ := HXl0.out
    clear hxr0 hfr0 hkr0 HXr0
    replace HXe := lH (HXe.out.only hb (by first | omega | (simp; omega)))
    clear hxe hfe hke
    obtain ⟨hke, hxe, hfe⟩ := HXe.out
    clear hb
    have HXr0 : Hid (NewBox w7 (w.heap.size + 1) [.slice A4 (n + 1) c4]) := hx11
    obtain ⟨hkr0, hxr0, hfr0⟩ := HXr0.out
    clear hx11
    have ey := addL_yes hc.out
    have el : Hid ((addL l t ti k b).length = n + 1) := by rw [Hid, ey.1, List.length_append, HN.out]; rfl
    have el2 : Hid (ents (addL l t ti k b) = ents l ++ ents [newEnt l t ti k b]) := by rw [Hid, ey.1, ents_app]
    have ef : Hid (addLeaf l t ti k b = (n : Nat)) := by rw [Hid, ey.2, HN.out]
    have HRO := lH hror
    have HRN := lH hrnr
    have HRC := lH hrcr
    clear ey hror hrnr hrwr hrcr
    go_wp2
    refine bodyPost_ret (v := .tuple #[.agg #[.slice A4 (n + 1) c4], .int .i64 n, .int .i64 0]) (by simp [results, Tryz.results107, go_sem, hxr0]) rfl ?_
    exact ⟨A4, c4, by rw [el.out, ef.out, hc.out], ⟨HRN.out, by rw [el.out]; exact HRC.out⟩, by rw [el2.out]; exact HRO.out.mono (by omega) (Nat.le_refl _) (Nat.le_refl _), (by ((repeat first | with_reducible apply bA | with_reducible apply bD | (with_reducible refine bS ?_ ?_; (focus (first | omega | (simp; done) | (simp; omega))))); exact HB.out))⟩
theorem rightAt_snoc {l : List Ent} {e : Ent} {k : Nat} (hk : k < l.length) : rightAt (l ++ [e]) k = rightAt l k := by
 rw [rightAt, rightAt, List.getElem?_append_left hk, List.take_append_of_le_length (Nat.le_of_lt hk)]
theorem logOk_snoc {l : List Ent} {e : Ent} (h : logOk l = true) (hl : l.length < 512) (he : entryOk e = true) (hi : (cnt l e.topic : Int) = e.index) : logOk (l ++ [e]) = true := by
 rw [logOk, Bool.and_eq_true] at *
 refine ⟨decide_eq_true (by rw [List.length_append]; show l.length + 1 ≤ 512; omega), ?_⟩
 rw [List.length_append, show [e].length = 1 from rfl, rightTo_succ, Bool.and_eq_true]
 refine ⟨?_, ?_⟩
 ·have h2 := h.2
  rw [rightTo, List.all_eq_true] at *
  intro k hk
  rw [rightAt_snoc (List.mem_range.1 hk)]
  exact h2 k hk
 ·rw [rightAt_eq (e := e) (by rw [List.getElem?_append_right (Nat.le_refl _), Nat.sub_self]; rfl), List.take_append_of_le_length (Nat.le_refl _), List.take_length, he, hi]
  simp
theorem rcpAt_snoc {l : List Rcp} {e : Rcp} {k : Nat} (hk : k < l.length) : rcpAt (l ++ [e]) k = rcpAt l k := by
 rw [rcpAt, rcpAt, List.getElem?_append_left hk, List.take_append_of_le_length (Nat.le_of_lt hk)]
theorem rcpsOk_snoc {l : List Rcp} {r : Rcp} (h : rcpsOk l = true) (hl : l.length < 512) (hr : rcpOk r = true) (hn : r ∉ l) : rcpsOk (l ++ [r]) = true := by
 rw [rcpsOk, Bool.and_eq_true] at *
 refine ⟨decide_eq_true (by rw [List.length_append]; show l.length + 1 ≤ 512; omega), ?_⟩
 rw [List.length_append, show [r].length = 1 from rfl, rcpsTo_succ, Bool.and_eq_true]
 refine ⟨?_, ?_⟩
 ·have h2 := h.2
  rw [rcpsTo, List.all_eq_true] at *
  intro k hk
  rw [rcpAt_snoc (List.mem_range.1 hk)]
  exact h2 k hk
 ·rw [rcpAt_eq (r := r) (by rw [List.getElem?_append_right (Nat.le_refl _), Nat.sub_self]; rfl), List.take_append_of_le_length (Nat.le_refl _), List.take_length, hr, decide_eq_true hn]
  rfl
theorem headAt_snoc {width : Int} {l : List Hd} {e : Hd} {k : Nat} (hk : k < l.length) : headAt width (l ++ [e]) k = headAt width l k := by
 obtain ⟨x, hx⟩ : ∃ x, l[k]? = some x := ⟨_, List.getElem?_eq_getElem hk⟩
 have hx2 : (l ++ [e])[k]? = some x := by rw [List.getElem?_append_left hk]; exact hx
 rcases Nat.eq_zero_or_pos k with h0 | h0
 ·subst h0
  rw [headAt_0 hx, headAt_0 hx2]
 ·obtain ⟨p, hp⟩ : ∃ p, l[k - 1]? = some p := ⟨_, List.getElem?_eq_getElem (by omega)⟩
  have hp2 : (l ++ [e])[k - 1]? = some p := by rw [List.getElem?_append_left (by omega)]; exact hp
  rw [headAt_s hx hp (by omega), headAt_s hx2 hp2 (by omega)]
theorem headsUp_snoc {width : Int} {l : List Hd} {e : Hd} : ∀ {k : Nat}, k ≤ l.length → headsUp width (l ++ [e]) k = headsUp width l k
 | 0, _ => rfl
 | k + 1, h => by rw [headsUp, headsUp, headsUp_snoc (by omega), headAt_snoc (by omega)]
theorem lastHd_snoc (l : List Hd) (x : Hd) : lastHd (l ++ [x]) = x := by
 rw [lastHd, List.length_append, show l.length + [x].length - 1 = l.length from rfl, List.getD_eq_getElem?_getD, List.getElem?_append_right (Nat.le_refl _), Nat.sub_self]; rfl
theorem headsOk_snoc {width : Int} {l : List Hd} {x : Hd} (h : headsOk width l = true) (h0 : 0 < l.length) (hl : l.length < 400) (hn : x.num = (l.length : Int)) (hx : headOk width x = true) (hf : followsM width (lastHd l) x = true) : headsOk width (l ++ [x]) = true := by
 rw [headsOk, Bool.and_eq_true, Bool.and_eq_true] at *
 refine ⟨⟨h.1.1, decide_eq_true (by rw [List.length_append]; show l.length + 1 ≤ 400; omega)⟩, ?_⟩
 rw [List.length_append, show [x].length = 1 from rfl, headsUp, headsUp_snoc (Nat.le_refl _), h.2, Bool.true_and,
  headAt_s (x := x) (p := lastHd l) (q := l.length - 1) (by rw [List.getElem?_append_right (Nat.le_refl _), Nat.sub_self]; rfl) (by rw [List.getElem?_append_left (by omega)]; exact lastHd_get h0) (by omega), hx, hf, hn]
 simp
theorem headsOk_len {width : Int} {l : List Hd} (h : headsOk width l = true) : l.length ≤ 400 := by
 rw [headsOk, Bool.and_eq_true, Bool.and_eq_true] at h
 exact of_decide_eq_true h.1.2
theorem rootsOk_iff {width : Int} {L T : List ByteArray} {hs : List Hd} : rootsOk width L T hs = true ↔ hs[0]? = some (headZero width) ∧ ∀ x ∈ hs, rootsAt width L T x = true := by
 rw [rootsOk, Bool.and_eq_true, decide_eq_true_iff, rootsTo, List.take_length, List.all_eq_true]
theorem rootsAt_more {width : Int} {L T M N : List ByteArray} {x : Hd} (h : rootsAt width L T x = true) : rootsAt width (L ++ M) (T ++ N) x = true := by
 obtain ⟨h1, h2, h3, h4⟩ := rootsAt_all h
 rw [rootsAt, decide_eq_true (show x.size ≤ ((L ++ M).length : Nat) by rw [List.length_append]; omega), decide_eq_true (show x.taken ≤ ((T ++ N).length : Nat) by rw [List.length_append]; omega),
  List.take_append_of_le_length (by omega), List.take_append_of_le_length (by omega), ← h3, ← h4]
 simp
theorem leavesM_app (width : Int) (a b : List Ent) : leavesM width (a ++ b) = leavesM width a ++ leavesM width b := List.map_append
theorem takenM_app (width : Int) (a b : List Rcp) : takenM width (a ++ b) = takenM width a ++ takenM width b := List.map_append
theorem leavesM_drop (width : Int) (a : List Ent) (n : Nat) : leavesM width (a.drop n) = (leavesM width a).drop n := List.map_drop
theorem takenM_drop (width : Int) (a : List Rcp) (n : Nat) : takenM width (a.drop n) = (takenM width a).drop n := List.map_drop
theorem leafIn_more {es fs : List Ent} {m k : Nat} {r : Rcp} (h : leafIn es m r = true) (hm : m ≤ es.length) (hk : m ≤ k) : leafIn (es ++ fs) k r = true := by
 rw [leafIn, decide_eq_true_iff] at *
 have h2 : firstFrom (isTI r.topic r.index) (((es ++ fs).take k).take m) 0 = firstFrom (isTI r.topic r.index) (es.take m) 0 := by
  rw [List.take_take, Nat.min_eq_left hk, List.take_append_of_le_length hm]
 have h3 := firstFrom_take (p := isTI r.topic r.index) ((es ++ fs).take k) m 0
 rw [h2, decide_eq_true h] at h3
 have h4 := h3.symm
 rw [Bool.and_eq_true] at h4
 exact of_decide_eq_true h4.1
theorem addCode_0 {l : List Ent} {t k b : ByteArray} {ti : Int} (h : addCode l t ti k b = 0) : nameOk t = true ∧ partsOk ti k b = true ∧ l.length < 512 := by
 rw [addCode] at h
 by_cases h1 : nameOk t = true
 ·rw [if_pos h1] at h
  by_cases h2 : partsOk ti k b = true
  ·rw [if_pos h2] at h
   by_cases h3 : 512 ≤ l.length
   ·rw [if_pos (by simpa using h3)] at h; omega
   ·exact ⟨h1, h2, by omega⟩
  ·rw [if_neg h2] at h; omega
 ·rw [if_neg h1] at h; omega
theorem newEnt_ok {l : List Ent} {t k b : ByteArray} {ti : Int} (h : addCode l t ti k b = 0) : entryOk (newEnt l t ti k b) = true := by
 obtain ⟨h1, h2, h3⟩ := addCode_0 h
 rw [entryOk, newEnt]
 show (nameOk t && (inR (cnt l t : Nat) 0 511 && partsOk ti k b)) = true
 rw [h1, h2, inR_true.2 ⟨Int.natCast_nonneg _, by have := cnt_le l t; omega⟩]; rfl
theorem logOk_add {l : List Ent} {t k b : ByteArray} {ti : Int} (hl : logOk l = true) (h : addCode l t ti k b = 0) : logOk (l ++ [newEnt l t ti k b]) = true :=
 logOk_snoc hl (addCode_0 h).2.2 (newEnt_ok h) rfl
section
variable {width : Int} {es : List Ent} {rs : List Rcp} {hs : List Hd}
theorem BrkParts.publish (h : BrkParts width es rs hs) {t k b : ByteArray} {ti : Int} (hc : addCode es t ti k b = 0) : BrkParts width (es ++ [newEnt es t ti k b]) rs hs := by
 refine ⟨h.wd, logOk_add h.log hc, h.rcps, h.pos, h.heads, ?_, fun r hr => leafIn_more (h.ins r hr) (by have := h.last; omega) (Nat.le_refl _)⟩
 obtain ⟨h1, h2⟩ := rootsOk_iff.1 h.roots
 refine rootsOk_iff.2 ⟨h1, fun x hx => ?_⟩
 rw [leavesM_app, ← List.append_nil (takenM width rs)]
 exact rootsAt_more (h2 x hx)
theorem BrkParts.take (h : BrkParts width es rs hs) {r : Rcp} (h1 : rcpOk r = true) (h2 : leafIn es (lastHd hs).size.toNat r = true) (h3 : r ∉ rs) (h4 : rs.length < 512) : BrkParts width es (rs ++ [r]) hs := by
 refine ⟨h.wd, h.log, rcpsOk_snoc h.rcps h4 h1 h3, h.pos, h.heads, ?_, fun x hx => ?_⟩
 ·obtain ⟨k1, k2⟩ := rootsOk_iff.1 h.roots
  refine rootsOk_iff.2 ⟨k1, fun x hx => ?_⟩
  rw [takenM_app, ← List.append_nil (leavesM width es)]
  exact rootsAt_more (k2 x hx)
 ·rcases List.mem_append.1 hx with hx | hx
  ·exact h.ins x hx
  ·rw [List.mem_singleton.1 hx]; exact h2
def pk1 (width : Int) (es : List Ent) (hs : List Hd) : List ByteArray := growUp width 0 [] (leavesM width es) (lastHd hs).size.toNat
def pk2 (width : Int) (rs : List Rcp) (hs : List Hd) : List ByteArray := growUp width 0 [] (takenM width rs) (lastHd hs).taken.toNat
theorem BrkParts.ok (h : BrkParts width es rs hs) : brkOk width es rs hs (lastHd hs).size (pk1 width es hs) (lastHd hs).taken (pk2 width rs hs) (lastHd hs) = true := by
 rw [brkOk, h.mk_, sealIs, pk1, pk2]; simp
theorem BrkParts.sealed (h : BrkParts width es rs hs) : sealOk width (lastHd hs).size (pk1 width es hs) (lastHd hs).taken (pk2 width rs hs) (lastHd hs) = true :=
 seal_right h (by rw [sealIs, pk1, pk2]; simp)
def nxHd (width : Int) (es : List Ent) (rs : List Rcp) (hs : List Hd) : Hd := ⟨hs.length, (es.length : Nat), rootFu width 513 (leavesM width es), (rs.length : Nat), rootFu width 513 (takenM width rs)⟩
theorem smP_all {width z : Int} {L : List ByteArray} (h0 : 0 ≤ z) (hz : z ≤ (L.length : Nat)) : smP width z (growUp width 0 [] L z.toNat) (L.drop z.toNat) = growUp width 0 [] L L.length := by
 rw [smP, List.length_drop]
 have h := growUp_part (width := width) (L := L) (n := z.toNat) (m := L.length) (by omega) (Nat.le_refl _)
 rwa [List.take_of_length_le (by rw [List.length_drop]; exact Nat.le_refl _)] at h
theorem BrkParts.lastAt (h : BrkParts width es rs hs) : (lastHd hs).num = ((hs.length - 1 : Nat) : Int) ∧ rootsAt width (leavesM width es) (takenM width rs) (lastHd hs) = true := by
 have hg := lastHd_get h.pos
 exact ⟨(headsOk_at h.heads hg).1, (rootsOk_iff.1 h.roots).2 _ (List.mem_of_getElem? hg)⟩
theorem BrkParts.sm (h : BrkParts width es rs hs) (hl : hs.length < 400) :
  smOk width (lastHd hs).size (pk1 width es hs) (lastHd hs).taken (pk2 width rs hs) (lastHd hs) (leavesM width (es.drop (lastHd hs).size.toNat)) (takenM width (rs.drop (lastHd hs).taken.toNat)) = true ∧
  smP width (lastHd hs).size (pk1 width es hs) (leavesM width (es.drop (lastHd hs).size.toNat)) = growUp width 0 [] (leavesM width es) es.length ∧
  smP width (lastHd hs).taken (pk2 width rs hs) (takenM width (rs.drop (lastHd hs).taken.toNat)) = growUp width 0 [] (takenM width rs) rs.length ∧
  nextHd width (lastHd hs).size (pk1 width es hs) (lastHd hs).taken (pk2 width rs hs) (lastHd hs) (leavesM width (es.drop (lastHd hs).size.toNat)) (takenM width (rs.drop (lastHd hs).taken.toNat)) = nxHd width es rs hs := by
 obtain ⟨b1, b2, b3, b4, b5, b6, b7⟩ := h.last
 have hn := h.lastAt.1
 have hp := h.pos
 have g1 := logOk_len h.log
 have g2 := rcpsOk_len h.rcps
 have e1 : smP width (lastHd hs).size (pk1 width es hs) (leavesM width (es.drop (lastHd hs).size.toNat)) = growUp width 0 [] (leavesM width es) es.length := by
  rw [leavesM_drop, pk1, smP_all b1 (by rw [leavesM_len]; exact b2), leavesM_len]
 have e2 : smP width (lastHd hs).taken (pk2 width rs hs) (takenM width (rs.drop (lastHd hs).taken.toNat)) = growUp width 0 [] (takenM width rs) rs.length := by
  rw [takenM_drop, pk2, smP_all b4 (by rw [takenM_len]; exact b5), takenM_len]
 refine ⟨smOk_of h.sealed ?_ ?_ ?_ ?_ (by omega), e1, e2, ?_⟩
 ·rw [leavesM_drop]; exact (take_are (leavesM_are h.wd h.log) _).2
 ·rw [takenM_drop]; exact (take_are (takenM_are h.wd h.rcps) _).2
 ·rw [leavesM_len, List.length_drop]; omega
 ·rw [takenM_len, List.length_drop]; omega
 ·rw [nextHd, e1, e2, growUp_root (by rw [leavesM_len]; exact Nat.le_refl _) g1, growUp_root (by rw [takenM_len]; exact Nat.le_refl _) g2, List.take_of_length_le (by rw [leavesM_len]; exact Nat.le_refl _), List.take_of_length_le (by rw [takenM_len]; exact Nat.le_refl _), leavesM_len, takenM_len, List.length_drop, List.length_drop, hn, nxHd]
  refine Hd.eq_of ?_ ?_ rfl ?_ rfl
  ·show ((hs.length - 1 : Nat) : Int) + 1 = (hs.length : Int); omega
  ·show (lastHd hs).size + ((es.length - (lastHd hs).size.toNat : Nat) : Int) = (es.length : Int); omega
  ·show (lastHd hs).taken + ((rs.length - (lastHd hs).taken.toNat : Nat) : Int) = (rs.length : Int); omega
theorem BrkParts.nextOk (h : BrkParts width es rs hs) (hl : hs.length < 400) : headOk width (nxHd width es rs hs) = true := by
 obtain ⟨s1, s2, s3, s4⟩ := h.sm hl
 have := seal_next s1
 rw [s4, sealOk, Bool.and_eq_true, Bool.and_eq_true] at this
 exact this.1.2
theorem bl_eq {a b : ByteArray} (h : a = b) : (a.toList == b.toList) = true := by rw [h]; exact beq_self_eq_true _
theorem BrkParts.seal_ (h : BrkParts width es rs hs) (hl : hs.length < 400) : BrkParts width es rs (hs ++ [nxHd width es rs hs]) := by
 obtain ⟨b1, b2, b3, b4, b5, b6, b7⟩ := h.last
 obtain ⟨hn, hra⟩ := h.lastAt
 have hp := h.pos
 have hno := h.nextOk hl
 obtain ⟨r1, r2, r3, r4⟩ := rootsAt_all hra
 have hf : followsM width (lastHd hs) (nxHd width es rs hs) = true := by
  have p1 : aheadM (lastHd hs) (nxHd width es rs hs) = false := by
   rw [aheadM, Bool.or_eq_false_iff, Bool.or_eq_false_iff]
   refine ⟨⟨decide_eq_false ?_, decide_eq_false ?_⟩, decide_eq_false ?_⟩
   ·show ¬ (hs.length : Int) ≤ (lastHd hs).num; omega
   ·show ¬ (es.length : Int) < (lastHd hs).size; omega
   ·show ¬ (rs.length : Int) < (lastHd hs).taken; omega
  have p2 : partedM (lastHd hs) (nxHd width es rs hs) = false := by
   rw [partedM]
   have q1 : ((lastHd hs).size == (nxHd width es rs hs).size) = true → ((lastHd hs).root.toList == (nxHd width es rs hs).root.toList) = true := fun e => bl_eq (by
    have e2 : (lastHd hs).size = (es.length : Int) := eq_of_beq e
    rw [r3, e2]
    show _ = rootFu width 513 (leavesM width es)
    rw [Int.toNat_natCast, List.take_of_length_le (by rw [leavesM_len]; exact Nat.le_refl _)])
   have q2 : ((lastHd hs).taken == (nxHd width es rs hs).taken) = true → ((lastHd hs).troot.toList == (nxHd width es rs hs).troot.toList) = true := fun e => bl_eq (by
    have e2 : (lastHd hs).taken = (rs.length : Int) := eq_of_beq e
    rw [r4, e2]
    show _ = rootFu width 513 (takenM width rs)
    rw [Int.toNat_natCast, List.take_of_length_le (by rw [takenM_len]; exact Nat.le_refl _)])
   rcases a1 : ((lastHd hs).size == (nxHd width es rs hs).size) with _ | _ <;> rcases a2 : ((lastHd hs).taken == (nxHd width es rs hs).taken) with _ | _
   ·cases h7 : ((lastHd hs).root.toList == (nxHd width es rs hs).root.toList) <;> cases h8 : ((lastHd hs).troot.toList == (nxHd width es rs hs).troot.toList) <;> rfl
   ·rw [q2 a2]; cases h7 : ((lastHd hs).root.toList == (nxHd width es rs hs).root.toList) <;> rfl
   ·rw [q1 a1]; cases h8 : ((lastHd hs).troot.toList == (nxHd width es rs hs).troot.toList) <;> rfl
   ·rw [q1 a1, q2 a2]; rfl
  rw [followsM, b7, hno, p1, p2]; rfl
 refine ⟨h.wd, h.log, h.rcps, by rw [List.length_append]; omega, headsOk_snoc h.heads hp hl rfl hno hf, ?_, fun r hr => ?_⟩
 ·obtain ⟨k1, k2⟩ := rootsOk_iff.1 h.roots
  refine rootsOk_iff.2 ⟨by rw [List.getElem?_append_left hp]; exact k1, fun x hx => ?_⟩
  rcases List.mem_append.1 hx with hx | hx
  ·exact k2 x hx
  ·rw [List.mem_singleton.1 hx, rootsAt]
   show (decide ((es.length : Int) ≤ ((leavesM width es).length : Nat)) && (decide ((rs.length : Int) ≤ ((takenM width rs).length : Nat)) && (decide (rootFu width 513 (leavesM width es) = rootFu width 513 ((leavesM width es).take (es.length : Int).toNat)) && decide (rootFu width 513 (takenM width rs) = rootFu width 513 ((takenM width rs).take (rs.length : Int).toNat))))) = true
   rw [Int.toNat_natCast, Int.toNat_natCast, List.take_of_length_le (by rw [leavesM_len]; exact Nat.le_refl _), List.take_of_length_le (by rw [takenM_len]; exact Nat.le_refl _), leavesM_len, takenM_len]
   simp
 ·rw [lastHd_snoc]
  have := leafIn_more (fs := []) (k := es.length) (h.ins r hr) (by omega) (by omega)
  rw [List.append_nil] at this
  exact this
theorem pk_next (h : BrkParts width es rs hs) : pk1 width es (hs ++ [nxHd width es rs hs]) = growUp width 0 [] (leavesM width es) es.length ∧ pk2 width rs (hs ++ [nxHd width es rs hs]) = growUp width 0 [] (takenM width rs) rs.length := by
 rw [pk1, pk2, lastHd_snoc]; exact ⟨rfl, rfl⟩
theorem growUp_sameR {L M : List ByteArray} {n : Nat} : ∀ {k : Nat}, k ≤ L.length → growUp width n [] (L ++ M) k = growUp width n [] L k
 | 0, _ => rfl
 | k + 1, h => by rw [growUp, growUp, growUp_sameR (by omega), List.getD_eq_getElem?_getD, List.getD_eq_getElem?_getD, List.getElem?_append_left (by omega)]
theorem pk1_more (h : BrkParts width es rs hs) (fs : List Ent) : pk1 width (es ++ fs) hs = pk1 width es hs := by
 rw [pk1, pk1, leavesM_app, growUp_sameR (by rw [leavesM_len]; have := h.last; omega)]
theorem pk2_more (h : BrkParts width es rs hs) (fs : List Rcp) : pk2 width (rs ++ fs) hs = pk2 width rs hs := by
 rw [pk2, pk2, takenM_app, growUp_sameR (by rw [takenM_len]; have := h.last; omega)]
theorem BrkParts.new (hw : inR width 1 32 = true) : BrkParts width [] [] [headZero width] := by
 have hk : headOk width (headZero width) = true := by
  rw [headOk, hw, rootOkM]
  have he := emptyT_size hw
  show ((true && inR 0 0 399 && (inR 0 0 512 && decide (((emptyT width).size : Int) = width) && (decide ((0 : Int) < 0) || decide (emptyT width = emptyT width)))) && rootOkM width 0 (emptyT width)) = true
  rw [rootOkM]
  have he2 : ((emptyT width).size : Int) = width := by first | exact he | omega
  rw [decide_eq_true he2, decide_eq_true (rfl : emptyT width = emptyT width)]
  rfl
 refine ⟨hw, rfl, rfl, Nat.succ_pos _, ?_, rootsOk_iff.2 ⟨rfl, fun x hx => by rw [List.mem_singleton.1 hx]; exact headZero_roots _ _ _⟩, fun r hr => by cases hr⟩
 rw [headsOk, hw, show [headZero width].length = 1 from rfl, headsUp, headsUp, headAt_0 (x := headZero width) rfl, hk]
 rfl
end
end
end Go.Proofs.YtoccjgcokffkbaaGreat
