/- Between: the reference's; both. -/
import Derived.Test.YtmmepogjocfefaaGreatBtw
namespace Go.Proofs.YtmmepogjocfefaaGreat
set_option linter.unusedVariables false
set_option linter.unusedSimpArgs false
open Go.RowKit

theorem BwPost.lift {w W w' : World} {l1 l2 : List ByteArray} {code : Int} {e : Ending} (h : BwPost W l1 l2 code e w') (hb : Below w.heap.size w W) : BwPost w l1 l2 code e w' := by
 obtain ⟨A1, c1, x1, y1, A2, c2, x2, y2, he, ⟨p1, p2, p3⟩, ⟨q1, q2, q3⟩, hd, hB⟩ := h
 have := hb.size
 exact ⟨A1, c1, x1, y1, A2, c2, x2, y2, he, ⟨by omega, p2, p3⟩, ⟨by omega, q2, q3⟩, hd, below_then hb hB hb.size⟩
theorem bw_empty {w w' : World} (A1 A2 : Option Addr) (c1 c2 : Nat) (hB : Below w.heap.size w w') (code : Int) : BwPost w [] [] code (.returned (.tuple #[.slice A1 0 c1, .slice A2 0 c2, .int .i64 code])) w' :=
 ⟨A1, c1, w'.heap.size, w'.heap.size, A2, c2, w'.heap.size, w'.heap.size, rfl, ⟨hB.size, Nat.le_refl _, Own.nil⟩, ⟨hB.size, Nat.le_refl _, Own.nil⟩, .inl (Nat.le_refl _), hB⟩
set_option maxRecDepth 100000 in
set_option maxHeartbeats 4000000 in
theorem l12Between_c (width z1 z2 : Int) (E R H A1 A2 : Option Addr) (ne nr nh ce cr ch c1 c2 lo1 hi1 lo2 hi2 lo3 hi3 m1 m2 : Nat) (es : List Ent) (rs : List Rcp) (hs : List Hd) (h : Hd) (a b c d : Int) (w : World)
  (hE : Rd w lo1 hi1 E (ents es)) (hR : Rd w lo2 hi2 R (rcps rs)) (hH : Rd w lo3 hi3 H (hds hs)) (hne : es.length = ne) (hnr : rs.length = nr) (hnh : hs.length = nh) (b1 : ne ≤ 1048576) (b2 : nr ≤ 1048576) (b3 : nh ≤ 1048576) (b6 : ne ≤ ce) (b7 : nr ≤ cr) (hfe : ∀ x ∈ es, x.fits) (hfr : ∀ x ∈ rs, x.fits) (hp : BrkParts width es rs hs) :
  Calls Tryz.prog 76 #[.agg #[.int .i64 width, .slice E ne ce, .slice R nr cr, .slice H nh ch, .int .i64 z1, .slice A1 m1 c1, .int .i64 z2, .slice A2 m2 c2, .int .i64 h.num, .int .i64 h.size, .string h.root, .int .i64 h.taken, .string h.troot], .int .i64 a, .int .i64 b, .int .i64 c, .int .i64 d] w (BwPost w (btL1 width es (lastHd hs) a b c d) (btL2 width rs (lastHd hs) a b c d) (btC (lastHd hs) a b c d)) := by
 have hpl := hp.last
 have hla := leavesM_are hp.wd hp.log
 have hta := takenM_are hp.wd hp.rcps
 have hll := (leavesM_len width es).trans hne
 have htl := (takenM_len width rs).trans hnr
 have h51 : ne ≤ 512 := by rw [← hne]; exact logOk_len hp.log
 have h52 : nr ≤ 512 := by rw [← hnr]; exact rcpsOk_len hp.rcps
 have hpos : 0 < nh := by rw [← hnh]; exact hp.pos
 have HW := Lib.hid (And.intro hp.wd (And.intro hla (And.intro hta (And.intro hll htl))))
 have HLV := Lib.hid (fun W m (r : Rd W 0 W.heap.size E (ents es)) (hm : m ≤ ne) => l09Hashes_c width E ce 0 W.heap.size m (es.take m) W (r.entsTake m) (by rw [List.length_take]; omega) (by omega) (fun x hx => hfe x (List.mem_of_mem_take hx)))
 have HTK := Lib.hid (fun W m (r : Rd W 0 W.heap.size R (rcps rs)) (hm : m ≤ nr) => l12Taken_c width R cr 0 W.heap.size m (rs.take m) W (r.rcpsTake m) (by rw [List.length_take]; omega) (by omega) (fun x hx => hfr x (List.mem_of_mem_take hx)))
 have HNH := Lib.hid hnh
 rw [hne, hnr] at hpl
 have hb7 : 0 ≤ (lastHd hs).size ∧ (lastHd hs).size ≤ ne ∧ 0 ≤ (lastHd hs).taken ∧ (lastHd hs).taken ≤ nr := ⟨hpl.1, hpl.2.1, hpl.2.2.2.1, hpl.2.2.2.2.1⟩
 have HB : Hid (Below w.heap.size w w) := Below.refl _ _
 have HOE : Hid (Rd w (0) (w.heap.size) (E) (ents es)) := Rd.base hE
 have HOR : Hid (Rd w (0) (w.heap.size) (R) (rcps rs)) := Rd.base hR
 have HOH : Hid (Rd w (0) (w.heap.size) (H) (hds hs)) := Rd.base hH
 clear hE hR hH hne hnr hnh hfe hfr hp hpl hla hta hll htl
 go_enter Tryz.func76, Tryz.ntmps76
 go_wp2_with fail
 refine calls_named (fun w1 hw => ?_)
 have hz1 : w.heap.size + 1 ≤ w1.heap.size := by rw [hw]; first | omega | (simp [World.setCell]; done) | (simp [World.setCell]; omega)
 have hzz1 : w.heap.size ≤ w1.heap.size := by omega
 have hbn : Below w.heap.size w w1 := by rw [hw]; exact (by ((repeat (first | ((with_reducible refine Below.alloc ?_ ?_ _); rotate_left 1; (focus (first | omega | (simp; done) | (simp; omega)))) | (with_reducible refine Below.drew ?_) | ((with_reducible refine Below.setCell ?_ ?_ _); rotate_left 1; (focus (first | omega | (simp; done) | (simp; omega)))))); exact Below.refl _ _))
 replace HB := Lib.hid (below_then HB.out hbn HB.out.size)
 replace HOE := Lib.hid (HOE.out.below hbn)
 replace HOR := Lib.hid (HOR.out.below hbn)
 replace HOH := Lib.hid (HOH.out.below hbn)
 clear hbn
 have HXb : Hid (NewBox w1 (w.heap.size) [.int .i64 width, .slice E ne ce, .slice R nr cr, .slice H nh ch, .int .i64 z1, .slice A1 m1 c1, .int .i64 z2, .slice A2 m2 c2, .int .i64 h.num, .int .i64 h.size, .string h.root, .int .i64 h.taken, .string h.troot]) := by rw [Hid, hw]; exact ⟨by first | omega | (simp [World.setCell]; done) | (simp [World.setCell]; omega), fun o => by rcases o with _ | _ | _ | _ | _ | _ | _ | _ | _ | _ | _ | _ | _ | o <;> go_simp, fun o => by go_simp⟩
 have hxb := HXb.out.2.1
 have hfb := HXb.out.2.2
 have hkb := HXb.out.1
 clear hw
 refine (l12Last_c width z1 z2 E R H A1 A2 ne nr nh ce cr ch c1 c2 0 (w1).heap.size m1 m2 hs h w1 HOH.out.base HNH.out hpos b3).mono ?_
 rintro e w2 ⟨rfl, hb⟩
 have hzw2 : w1.heap.size ≤ w2.heap.size := hb.size
 have hzzw2 : w.heap.size ≤ w2.heap.size := by omega
 replace HB := Lib.hid (below_then HB.out hb HB.out.size)
 replace HOE := Lib.hid (HOE.out.below hb)
 replace HOR := Lib.hid (HOR.out.below hb)
 replace HOH := Lib.hid (HOH.out.below hb)
 replace HXb := Lib.hid (HXb.out.below hb)
 clear hxb hfb hkb
 have hxb := HXb.out.2.1
 have hfb := HXb.out.2.2
 have hkb := HXb.out.1
 clear hb
 generalize lastHd hs = lh at *
 rcases (show (a < 0 ∨ b < a ∨ lh.size < b ∨ c < 0 ∨ d < c ∨ lh.taken < d) ∨ (0 ≤ a ∧ a ≤ b ∧ b ≤ lh.size ∧ 0 ≤ c ∧ c ≤ d ∧ d ≤ lh.taken) by omega) with hbad | hgood
 ·have HNO := Lib.hid (bwIn_no hbad)
  have HPOST : Hid (∀ w' A3 A4 c3 c4, Below w.heap.size w w' → BwPost w (btL1 width es lh a b c d) (btL2 width rs lh a b c d) (btC lh a b c d) (.returned (.tuple #[.slice A3 0 c3, .slice A4 0 c4, .int .i64 2])) w') := Lib.hid (fun w' A3 A4 c3 c4 hB => by rw [btL1, btL2, btC, HNO.out]; exact bw_empty A3 A4 c3 c4 hB 2)
  clear HLV HTK HW HNO
  rcases (show a < 0 ∨ (0 ≤ a ∧ b < a) ∨ (0 ≤ a ∧ a ≤ b ∧ lh.size < b) ∨ (0 ≤ a ∧ a ≤ b ∧ b ≤ lh.size ∧ c < 0) ∨ (0 ≤ a ∧ a ≤ b ∧ b ≤ lh.size ∧ 0 ≤ c ∧ d < c) ∨ (0 ≤ a ∧ a ≤ b ∧ b ≤ lh.size ∧ 0 ≤ c ∧ c ≤ d ∧ lh.taken < d) by omega) with x1 | ⟨x1, x2⟩ | ⟨x1, x2, x3⟩ | ⟨x1, x2, x3, x4⟩ | ⟨x1, x2, x3, x4, x5⟩ | ⟨x1, x2, x3, x4, x5, x6⟩
  all_goals
   clear hbad
   go_wp2
   refine bodyPost_named (fun w77 hw => ?_)
   have hb77 : Hid (Below w.heap.size w w77) := by rw [Hid, hw]; exact (by ((repeat (first | ((with_reducible refine Below.alloc ?_ ?_ _); rotate_left 1; (focus (first | omega | (simp; done) | (simp; omega)))) | (with_reducible refine Below.drew ?_) | ((with_reducible refine Below.setCell ?_ ?_ _); rotate_left 1; (focus (first | omega | (simp; done) | (simp; omega)))))); exact HB.out))
   clear hw
   refine bodyPost_ret (v := .tuple #[.slice (some ⟨_, 0, none⟩) 0 0, .slice (some ⟨_, 0, none⟩) 0 0, .int .i64 2]) (by simp [results, Tryz.results76, go_sem]; exact ⟨rfl, rfl⟩) rfl ?_
   exact HPOST.out _ _ _ _ _ hb77.out
 ·obtain ⟨x1, x2, x3, x4, x5, x6⟩ := hgood
  obtain ⟨nA, rfl⟩ : ∃ nA : Nat, a = nA := ⟨a.toNat, by omega⟩
  obtain ⟨nB, rfl⟩ : ∃ nB : Nat, b = nB := ⟨b.toNat, by omega⟩
  obtain ⟨nC, rfl⟩ : ∃ nC : Nat, c = nC := ⟨c.toNat, by omega⟩
  obtain ⟨nD, rfl⟩ : ∃ nD : Nat, d = nD := ⟨d.toNat, by omega⟩
  have hxy : nA ≤ nB ∧ nC ≤ nD ∧ nB ≤ ne ∧ nD ≤ nr := by omega
  have HYES := Lib.hid (bwIn_yes x1 x2 x3 x4 x5 x6)
  have hq1 : ((leavesM width es).take nB).length = nB := by rw [List.length_take, HW.out.2.2.2.1]; omega
  have hq2 : ((takenM width rs).take nD).length = nD := by rw [List.length_take, HW.out.2.2.2.2]; omega
  have ha1 := areH_sub HW.out.2.1 (fun s hs => List.mem_of_mem_take hs : ∀ s ∈ (leavesM width es).take nB, s ∈ leavesM width es)
  have ha2 := areH_sub HW.out.2.2.1 (fun s hs => List.mem_of_mem_take hs : ∀ s ∈ (takenM width rs).take nD, s ∈ takenM width rs)
  have hc1 := (conTx_eq HW.out.1 ha1 hq1 (by omega) hxy.1).2
  have hc2 := (conTx_eq HW.out.1 ha2 hq2 (by omega) hxy.2.1).2
  have hn1 := fun W X d1 (r : Rd W 0 W.heap.size X (strs ((leavesM width es).take nB))) (hd : nB ≤ d1) => specConsistency_c width nA X d1 0 W.heap.size nB ((leavesM width es).take nB) W r hq1 (by omega) hd
  have hn2 := fun W X d1 (r : Rd W 0 W.heap.size X (strs ((takenM width rs).take nD))) (hd : nD ≤ d1) => specConsistency_c width nC X d1 0 W.heap.size nD ((takenM width rs).take nD) W r hq2 (by omega) hd
  rw [hc1] at hn1
  rw [hc2] at hn2
  have hlv := fun W (r : Rd W 0 W.heap.size E (ents es)) => HLV.out W nB r hxy.2.2.1
  have htk := fun W (r : Rd W 0 W.heap.size R (rcps rs)) => HTK.out W nD r hxy.2.2.2
  rw [show (es.take nB).map (leafHashM width) = (leavesM width es).take nB from List.map_take] at hlv
  rw [show (rs.take nD).map (rcpHashM width) = (takenM width rs).take nD from List.map_take] at htk
  have HLV2 := Lib.hid hlv
  have HTK2 := Lib.hid htk
  have HN1 := Lib.hid hn1
  have HN2 := Lib.hid hn2
  have hpe := slicePreE E ne ce nB (by omega)
  have hpr := slicePreR R nr cr nD (by omega)
  have HD1 : Hid (btL1 width es lh nA nB nC nD = conTx width ((leavesM width es).take nB) nA) := Lib.hid (by rw [btL1, HYES.out, if_pos rfl, Int.toNat_natCast])
  have HD2 : Hid (btL2 width rs lh nA nB nC nD = conTx width ((takenM width rs).take nD) nC) := Lib.hid (by rw [btL2, HYES.out, if_pos rfl, Int.toNat_natCast])
  have HD3 : Hid (btC lh nA nB nC nD = 0) := Lib.hid (by rw [btC, HYES.out]; rfl)
  clear hn1 hn2 hc1 hc2 ha1 ha2 hq1 hq2 HYES HLV HTK hlv htk
  generalize conTx width ((leavesM width es).take nB) nA = cl1 at *
  generalize conTx width ((takenM width rs).take nD) nC = cl2 at *
  generalize (leavesM width es).take nB = lt at *
  generalize (takenM width rs).take nD = tt at *
  go_wp2_with fail
  refine wp_named (fun w3 hw => ?_)
  have hz3 : w2.heap.size + 1 ≤ w3.heap.size := by rw [hw]; first | omega | (simp [World.setCell]; done) | (simp [World.setCell]; omega)
  have hzz3 : w.heap.size ≤ w3.heap.size := by omega
  have hbn : Below w2.heap.size w2 w3 := by rw [hw]; exact (by ((repeat (first | ((with_reducible refine Below.alloc ?_ ?_ _); rotate_left 1; (focus (first | omega | (simp; done) | (simp; omega)))) | (with_reducible refine Below.drew ?_) | ((with_reducible refine Below.setCell ?_ ?_ _); rotate_left 1; (focus (first | omega | (simp; done) | (simp; omega)))))); exact Below.refl _ _))
  replace HB := Lib.hid (below_then HB.out hbn HB.out.size)
  replace HOE := Lib.hid (HOE.out.below hbn)
  replace HOR := Lib.hid (HOR.out.below hbn)
  replace HOH := Lib.hid (HOH.out.below hbn)
  replace HXb := Lib.hid (HXb.out.below hbn)
  clear hxb hfb hkb
  have hxb := HXb.out.2.1
  have hfb := HXb.out.2.2
  have hkb := HXb.out.1
  clear hbn
  have HXg : Hid (NewBox w3 (w2.heap.size) [.int .i64 lh.num, .int .i64 lh.size, .string lh.root, .int .i64 lh.taken, .string lh.troot]) := by rw [Hid, hw]; exact ⟨by first | omega | (simp [World.setCell]; done) | (simp [World.setCell]; omega), fun o => by rcases o with _ | _ | _ | _ | _ | o <;> go_simp, fun o => by go_simp⟩
  have hxg := HXg.out.2.1
  have hfg := HXg.out.2.2
  have hkg := HXg.out.1
  clear hw
  obtain ⟨F, HF⟩ : ∃ F : Facts, Hid (F = fun iq xq tqs dsq uq => match iq with
   | 0 => xq.v = .pointer (some ⟨(w.heap.size), 0, none⟩)
   | 1 => xq.v = .int .i64 width
   | 2 => xq.v = .pointer (some ⟨(w.heap.size), 0, none⟩)
   | 3 => xq.v = .int .i64 width
   | 4 => xq.v = .pointer (some ⟨(w.heap.size), 1, none⟩)
   | 5 => xq.v = .pointer (some ⟨(w.heap.size), 1, none⟩)
   | 6 => xq.v = .slice E ne ce
   | 7 => xq.v = .int .i64 (nB : Nat)
   | 8 => xq.v = .slice E nB ce
   | 9 => ∃ (X1 : Option Addr) (d1 : Nat), xq.v = .slice X1 nB d1 ∧ (RowB uq xq.s xq.e (.slice X1 nB d1, nB) (strs lt))
   | 10 => xq.v = .int .i64 (nA : Nat)
   | 11 => ∃ (X3 : Option Addr) (d3 : Nat), xq.v = .tuple #[.slice X3 cl1.length d3, .bool true] ∧ (RowB uq xq.s xq.e (.slice X3 cl1.length d3, cl1.length) (strs cl1))
   | 12 => (match tqs, dsq with | [], [yq0] => ∃ (X3 : Option Addr) (d3 : Nat), yq0.v = .tuple #[.slice X3 cl1.length d3, .bool true] ∧ xq.v = .tuple #[.slice X3 cl1.length d3, .bool true] | _, _ => False)
   | 13 => (match tqs, dsq with | [], [yq0] => ∃ (X3 : Option Addr) (d3 : Nat), yq0.v = .tuple #[.slice X3 cl1.length d3, .bool true] ∧ xq.v = .slice X3 cl1.length d3 | _, _ => False)
   | 14 => (match tqs, dsq with | [], [yq0] => ∃ (X3 : Option Addr) (d3 : Nat), yq0.v = .tuple #[.slice X3 cl1.length d3, .bool true] ∧ xq.v = .bool true | _, _ => False)
   | 15 => (match tqs, dsq with | [], [yq0] => ∃ (X3 : Option Addr) (d3 : Nat), yq0.v = .tuple #[.slice X3 cl1.length d3, .bool true] ∧ xq.v = .slice X3 cl1.length d3 | _, _ => False)
   | 16 => (match tqs, dsq with | [], [yq0] => ∃ (X3 : Option Addr) (d3 : Nat), yq0.v = .tuple #[.slice X3 cl1.length d3, .bool true] ∧ xq.v = .bool true | _, _ => False)
   | _ => False) := ⟨_, rfl⟩
  refine wp_region_facts [[], [], [], [], [], [], [], [], [], [], [], [], [11], [11], [11], [11], [11]] [[], [], [], [], [], [], [], [], [], [], [], [], [], [], [], [], []] [some 51, some 52, some 53, some 54, some 55, some 56, some 57, some 58, some 59, some 60, some 61, some 62, some 50, some 63, some 64, some 14, some 15] none 0 0 (.inl rfl) F (by kernel_rfl) (by kernel_rfl) (by kernel_rfl) ?_ ⟨?_, ?_, ?_, ?_, ?_, ?_, ?_, ?_, ?_, ?_, ?_, ?_, ?_, ?_, ?_, ?_, ?_, trivial⟩ ?_
  ·rw [HF.out]; intro iq xq tqs dsq uq u' hi hf hs hW hx hbk
   have kx : ∀ b, xq.s ≤ b → b < xq.e → u'.heap[b]? = uq.heap[b]? := fun b h1 h2 => hbk b (.inr (.inl ⟨h1, h2⟩))
   have kt : ∀ t ∈ tqs, ∀ b, t.s ≤ b → b < t.e → u'.heap[b]? = uq.heap[b]? := fun t ht b h1 h2 => hbk b (.inr (.inr ⟨t, ht, h1, h2⟩))
   match iq with
   | 0 => exact hf
   | 1 => exact hf
   | 2 => exact hf
   | 3 => exact hf
   | 4 => exact hf
   | 5 => exact hf
   | 6 => exact hf
   | 7 => exact hf
   | 8 => exact hf
   | 9 => obtain ⟨X1, d1, hv, p0⟩ := hf; exact ⟨X1, d1, hv, p0.keep (fun k _ h1 h2 => kx k h1 h2)⟩
   | 10 => exact hf
   | 11 => obtain ⟨X3, d3, hv, p0⟩ := hf; exact ⟨X3, d3, hv, p0.keep (fun k _ h1 h2 => kx k h1 h2)⟩
   | 12 => exact hf
   | 13 => exact hf
   | 14 => exact hf
   | 15 => exact hf
   | 16 => exact hf
  ·intro gh ρ u hc hf1 hg1 hd h0 hb he ha hF
   have r5 : ρ (.tmp 5) = .pointer (some ⟨w.heap.size, 0, none⟩) := (h0 5 (by decide +kernel)).trans rfl
   clear  hd h0 he ha hF
   go_simp
   rw [HF.out]
   exact ⟨OnlyL.refl _ _, rfl⟩
  ·intro gh ρ u hc hf1 hg1 hd h0 hb he ha hF
   replace hb : Below w3.heap.size w3 u := hb.drew.below (by decide +kernel)
   have hbz : w3.heap.size ≤ u.heap.size := hb.size
   have r51 : ρ (.tmp 51) = .pointer (some ⟨(w.heap.size), 0, none⟩) := by have h := hF 0 (by decide +kernel) (by decide +kernel); rw [HF.out] at h; exact (hd 0 (by decide +kernel) 51 (by kernel_rfl)).trans h
   have q_b := (HXb.out.below hb).2.1
   have k_b : w.heap.size < u.heap.size := by have := HXb.out.1; omega
   clear  hd h0 he ha hF
   go_simp
   rw [HF.out]
   exact ⟨OnlyL.refl _ _, rfl⟩
  ·intro gh ρ u hc hf1 hg1 hd h0 hb he ha hF
   have r5 : ρ (.tmp 5) = .pointer (some ⟨w.heap.size, 0, none⟩) := (h0 5 (by decide +kernel)).trans rfl
   clear  hd h0 he ha hF
   go_simp
   rw [HF.out]
   exact ⟨OnlyL.refl _ _, rfl⟩
  ·intro gh ρ u hc hf1 hg1 hd h0 hb he ha hF
   replace hb : Below w3.heap.size w3 u := hb.drew.below (by decide +kernel)
   have hbz : w3.heap.size ≤ u.heap.size := hb.size
   have r53 : ρ (.tmp 53) = .pointer (some ⟨(w.heap.size), 0, none⟩) := by have h := hF 2 (by decide +kernel) (by decide +kernel); rw [HF.out] at h; exact (hd 2 (by decide +kernel) 53 (by kernel_rfl)).trans h
   have q_b := (HXb.out.below hb).2.1
   have k_b : w.heap.size < u.heap.size := by have := HXb.out.1; omega
   clear  hd h0 he ha hF
   go_simp
   rw [HF.out]
   exact ⟨OnlyL.refl _ _, rfl⟩
  ·intro gh ρ u hc hf1 hg1 hd h0 hb he ha hF
   have r5 : ρ (.tmp 5) = .pointer (some ⟨w.heap.size, 0, none⟩) := (h0 5 (by decide +kernel)).trans rfl
   clear  hd h0 he ha hF
   go_simp
   rw [HF.out]
   exact ⟨OnlyL.refl _ _, rfl⟩
  ·intro gh ρ u hc hf1 hg1 hd h0 hb he ha hF
   have r55 : ρ (.tmp 55) = .pointer (some ⟨(w.heap.size), 1, none⟩) := by have h := hF 4 (by decide +kernel) (by decide +kernel); rw [HF.out] at h; exact (hd 4 (by decide +kernel) 55 (by kernel_rfl)).trans h
   clear  hd h0 he ha hF
   go_simp
   rw [HF.out]
   exact ⟨OnlyL.refl _ _, rfl⟩
  ·intro gh ρ u hc hf1 hg1 hd h0 hb he ha hF
   replace hb : Below w3.heap.size w3 u := hb.drew.below (by decide +kernel)
   have hbz : w3.heap.size ≤ u.heap.size := hb.size
   have r56 : ρ (.tmp 56) = .pointer (some ⟨(w.heap.size), 1, none⟩) := by have h := hF 5 (by decide +kernel) (by decide +kernel); rw [HF.out] at h; exact (hd 5 (by decide +kernel) 56 (by kernel_rfl)).trans h
   have q_b := (HXb.out.below hb).2.1
   have k_b : w.heap.size < u.heap.size := by have := HXb.out.1; omega
   clear  hd h0 he ha hF
   go_simp
   rw [HF.out]
   exact ⟨OnlyL.refl _ _, rfl⟩
  ·intro gh ρ u hc hf1 hg1 hd h0 hb he ha hF
   have r2 : ρ (.tmp 2) = .int .i64 (nB : Nat) := (h0 2 (by decide +kernel)).trans rfl
   clear  hd h0 he ha hF
   go_simp
   rw [HF.out]
   exact ⟨OnlyL.refl _ _, rfl⟩
  ·intro gh ρ u hc hf1 hg1 hd h0 hb he ha hF
   have r57 : ρ (.tmp 57) = .slice E ne ce := by have h := hF 6 (by decide +kernel) (by decide +kernel); rw [HF.out] at h; exact (hd 6 (by decide +kernel) 57 (by kernel_rfl)).trans h
   have r58 : ρ (.tmp 58) = .int .i64 (nB : Nat) := by have h := hF 7 (by decide +kernel) (by decide +kernel); rw [HF.out] at h; exact (hd 7 (by decide +kernel) 58 (by kernel_rfl)).trans h
   clear  hd h0 he ha hF
   go_simp
   rw [HF.out]
   exact ⟨OnlyL.refl _ _, rfl⟩
  ·intro gh ρ u hc hf1 hg1 hd h0 hb he ha hF
   replace hb : Below w3.heap.size w3 u := hb.drew.below (by decide +kernel)
   have hbz : w3.heap.size ≤ u.heap.size := hb.size
   have r54 : ρ (.tmp 54) = .int .i64 width := by have h := hF 3 (by decide +kernel) (by decide +kernel); rw [HF.out] at h; exact (hd 3 (by decide +kernel) 54 (by kernel_rfl)).trans h
   have r59 : ρ (.tmp 59) = .slice E nB ce := by have h := hF 8 (by decide +kernel) (by decide +kernel); rw [HF.out] at h; exact (hd 8 (by decide +kernel) 59 (by kernel_rfl)).trans h
   clear  hd h0 he ha hF
   go_simp
   have q_b := (HXb.out.below hb)
   refine (HLV2.out _ (HOE.out.below hb).base).mono ?_
   rintro e u1 ⟨X1, d1, rfl, ho, hb1⟩
   rw [HF.out]
   exact ⟨_, rfl, OnlyL.of_below hb1, X1, d1, rfl, RowB.of ho⟩
  ·intro gh ρ u hc hf1 hg1 hd h0 hb he ha hF
   have r1 : ρ (.tmp 1) = .int .i64 (nA : Nat) := (h0 1 (by decide +kernel)).trans rfl
   clear  hd h0 he ha hF
   go_simp
   rw [HF.out]
   exact ⟨OnlyL.refl _ _, rfl⟩
  ·intro gh ρ u hc hf1 hg1 hd h0 hb he ha hF
   replace hb : Below w3.heap.size w3 u := hb.drew.below (by decide +kernel)
   have hbz : w3.heap.size ≤ u.heap.size := hb.size
   have r52 : ρ (.tmp 52) = .int .i64 width := by have h := hF 1 (by decide +kernel) (by decide +kernel); rw [HF.out] at h; exact (hd 1 (by decide +kernel) 52 (by kernel_rfl)).trans h
   have f9 : ∃ (X1 : Option Addr) (d1 : Nat), (gh 9).v = .slice X1 nB d1 ∧ (RowB u (gh 9).s (gh 9).e (.slice X1 nB d1, nB) (strs lt)) := by have h := hF 9 (by decide +kernel) (by decide +kernel); rw [HF.out] at h; exact h
   obtain ⟨X1, d1, hv9, g9_0⟩ := f9
   have r60 : ρ (.tmp 60) = .slice X1 nB d1 := (hd 9 (by decide +kernel) 60 (by kernel_rfl)).trans hv9
   have r61 : ρ (.tmp 61) = .int .i64 (nA : Nat) := by have h := hF 10 (by decide +kernel) (by decide +kernel); rw [HF.out] at h; exact (hd 10 (by decide +kernel) 61 (by kernel_rfl)).trans h
   clear hv9 hd h0 he ha hF
   go_simp
   have q_b := (HXb.out.below hb)
   refine (HN1.out _ _ _ (Own.of_ownsRow g9_0.1).rd.base (row_cap g9_0.1)).mono ?_
   rintro e u1 ⟨X3, d3, rfl, ho, hb1⟩
   rw [HF.out]
   exact ⟨_, rfl, OnlyL.of_below hb1, X3, d3, rfl, RowB.of ho⟩
  ·intro gh ρ u hc hf1 hg1 hd h0 hb he ha hF
   have f11 : ∃ (X3 : Option Addr) (d3 : Nat), (gh 11).v = .tuple #[.slice X3 cl1.length d3, .bool true] ∧ (RowB u (gh 11).s (gh 11).e (.slice X3 cl1.length d3, cl1.length) (strs cl1)) := by have h := hF 11 (by decide +kernel) (by decide +kernel); rw [HF.out] at h; exact h
   obtain ⟨X3, d3, hv11, g11_0⟩ := f11
   have hrt11 := hv11
   have r62 : ρ (.tmp 62) = .tuple #[.slice X3 cl1.length d3, .bool true] := (hd 11 (by decide +kernel) 62 (by kernel_rfl)).trans hv11
   have HRT11 := Lib.hid hrt11
   clear hv11 hrt11 hd h0 he ha hF
   go_simp
   rw [HF.out]
   exact ⟨OnlyL.refl _ _, X3, d3, HRT11.out, rfl⟩
  ·intro gh ρ u hc hf1 hg1 hd h0 hb he ha hF
   have f12 : ∃ (X3 : Option Addr) (d3 : Nat), (gh 11).v = .tuple #[.slice X3 cl1.length d3, .bool true] ∧ (gh 12).v = .tuple #[.slice X3 cl1.length d3, .bool true] := by have h := hF 12 (by decide +kernel) (by decide +kernel); rw [HF.out] at h; exact h
   obtain ⟨X3, d3, hrt11, hv12⟩ := f12
   have r50 : ρ (.tmp 50) = .tuple #[.slice X3 cl1.length d3, .bool true] := (hd 12 (by decide +kernel) 50 (by kernel_rfl)).trans hv12
   have HRT11 := Lib.hid hrt11
   clear hv12 hrt11 hd h0 he ha hF
   go_simp
   rw [HF.out]
   exact ⟨OnlyL.refl _ _, X3, d3, HRT11.out, rfl⟩
  ·intro gh ρ u hc hf1 hg1 hd h0 hb he ha hF
   have f12 : ∃ (X3 : Option Addr) (d3 : Nat), (gh 11).v = .tuple #[.slice X3 cl1.length d3, .bool true] ∧ (gh 12).v = .tuple #[.slice X3 cl1.length d3, .bool true] := by have h := hF 12 (by decide +kernel) (by decide +kernel); rw [HF.out] at h; exact h
   obtain ⟨X3, d3, hrt11, hv12⟩ := f12
   have r50 : ρ (.tmp 50) = .tuple #[.slice X3 cl1.length d3, .bool true] := (hd 12 (by decide +kernel) 50 (by kernel_rfl)).trans hv12
   have HRT11 := Lib.hid hrt11
   clear hv12 hrt11 hd h0 he ha hF
   go_simp
   rw [HF.out]
   exact ⟨OnlyL.refl _ _, X3, d3, HRT11.out, rfl⟩
  ·intro gh ρ u hc hf1 hg1 hd h0 hb he ha hF
   have f13 : ∃ (X3 : Option Addr) (d3 : Nat), (gh 11).v = .tuple #[.slice X3 cl1.length d3, .bool true] ∧ (gh 13).v = .slice X3 cl1.length d3 := by have h := hF 13 (by decide +kernel) (by decide +kernel); rw [HF.out] at h; exact h
   obtain ⟨X3, d3, hrt11, hv13⟩ := f13
   have r63 : ρ (.tmp 63) = .slice X3 cl1.length d3 := (hd 13 (by decide +kernel) 63 (by kernel_rfl)).trans hv13
   have HRT11 := Lib.hid hrt11
   clear hv13 hrt11 hd h0 he ha hF
   go_simp
   rw [HF.out]
   exact ⟨OnlyL.refl _ _, X3, d3, HRT11.out, rfl⟩
  ·intro gh ρ u hc hf1 hg1 hd h0 hb he ha hF
   have f14 : ∃ (X3 : Option Addr) (d3 : Nat), (gh 11).v = .tuple #[.slice X3 cl1.length d3, .bool true] ∧ (gh 14).v = .bool true := by have h := hF 14 (by decide +kernel) (by decide +kernel); rw [HF.out] at h; exact h
   obtain ⟨X3, d3, hrt11, hv14⟩ := f14
   have r64 : ρ (.tmp 64) = .bool true := (hd 14 (by decide +kernel) 64 (by kernel_rfl)).trans hv14
   have HRT11 := Lib.hid hrt11
   clear hv14 hrt11 hd h0 he ha hF
   go_simp
   rw [HF.out]
   exact ⟨OnlyL.refl _ _, X3, d3, HRT11.out, rfl⟩
  intro gh w4 hB hE hA hF
  replace hB : Below w3.heap.size w3 w4 := hB.below rfl
  have f0 : (gh 0).v = .pointer (some ⟨(w.heap.size), 0, none⟩) := by have h := hF 0 (by decide +kernel) (by decide +kernel); rw [HF.out] at h; exact h
  have f1 : (gh 1).v = .int .i64 width := by have h := hF 1 (by decide +kernel) (by decide +kernel); rw [HF.out] at h; exact h
  have f2 : (gh 2).v = .pointer (some ⟨(w.heap.size), 0, none⟩) := by have h := hF 2 (by decide +kernel) (by decide +kernel); rw [HF.out] at h; exact h
  have f3 : (gh 3).v = .int .i64 width := by have h := hF 3 (by decide +kernel) (by decide +kernel); rw [HF.out] at h; exact h
  have f4 : (gh 4).v = .pointer (some ⟨(w.heap.size), 1, none⟩) := by have h := hF 4 (by decide +kernel) (by decide +kernel); rw [HF.out] at h; exact h
  have f5 : (gh 5).v = .pointer (some ⟨(w.heap.size), 1, none⟩) := by have h := hF 5 (by decide +kernel) (by decide +kernel); rw [HF.out] at h; exact h
  have f6 : (gh 6).v = .slice E ne ce := by have h := hF 6 (by decide +kernel) (by decide +kernel); rw [HF.out] at h; exact h
  have f7 : (gh 7).v = .int .i64 (nB : Nat) := by have h := hF 7 (by decide +kernel) (by decide +kernel); rw [HF.out] at h; exact h
  have f8 : (gh 8).v = .slice E nB ce := by have h := hF 8 (by decide +kernel) (by decide +kernel); rw [HF.out] at h; exact h
  have f9 : ∃ (X1 : Option Addr) (d1 : Nat), (gh 9).v = .slice X1 nB d1 ∧ (RowB w4 (gh 9).s (gh 9).e (.slice X1 nB d1, nB) (strs lt)) := by have h := hF 9 (by decide +kernel) (by decide +kernel); rw [HF.out] at h; exact h
  have f10 : (gh 10).v = .int .i64 (nA : Nat) := by have h := hF 10 (by decide +kernel) (by decide +kernel); rw [HF.out] at h; exact h
  have f11 : ∃ (X3 : Option Addr) (d3 : Nat), (gh 11).v = .tuple #[.slice X3 cl1.length d3, .bool true] ∧ (RowB w4 (gh 11).s (gh 11).e (.slice X3 cl1.length d3, cl1.length) (strs cl1)) := by have h := hF 11 (by decide +kernel) (by decide +kernel); rw [HF.out] at h; exact h
  have f12 : ∃ (X3 : Option Addr) (d3 : Nat), (gh 11).v = .tuple #[.slice X3 cl1.length d3, .bool true] ∧ (gh 12).v = .tuple #[.slice X3 cl1.length d3, .bool true] := by have h := hF 12 (by decide +kernel) (by decide +kernel); rw [HF.out] at h; exact h
  have f13 : ∃ (X3 : Option Addr) (d3 : Nat), (gh 11).v = .tuple #[.slice X3 cl1.length d3, .bool true] ∧ (gh 13).v = .slice X3 cl1.length d3 := by have h := hF 13 (by decide +kernel) (by decide +kernel); rw [HF.out] at h; exact h
  have f14 : ∃ (X3 : Option Addr) (d3 : Nat), (gh 11).v = .tuple #[.slice X3 cl1.length d3, .bool true] ∧ (gh 14).v = .bool true := by have h := hF 14 (by decide +kernel) (by decide +kernel); rw [HF.out] at h; exact h
  have f15 : ∃ (X3 : Option Addr) (d3 : Nat), (gh 11).v = .tuple #[.slice X3 cl1.length d3, .bool true] ∧ (gh 15).v = .slice X3 cl1.length d3 := by have h := hF 15 (by decide +kernel) (by decide +kernel); rw [HF.out] at h; exact h
  have f16 : ∃ (X3 : Option Addr) (d3 : Nat), (gh 11).v = .tuple #[.slice X3 cl1.length d3, .bool true] ∧ (gh 16).v = .bool true := by have h := hF 16 (by decide +kernel) (by decide +kernel); rw [HF.out] at h; exact h
  obtain ⟨X1, d1, hv9, _⟩ := f9
  obtain ⟨X3, d3, hv11, hr3⟩ := f11
  have hv0 := f0
  have hv1 := f1
  have hv2 := f2
  have hv3 := f3
  have hv4 := f4
  have hv5 := f5
  have hv6 := f6
  have hv7 := f7
  have hv8 := f8
  have hv10 := f10
  obtain ⟨X3_12, d3_12, hu11, hv12⟩ := f12
  replace hu11 := hv11.symm.trans hu11
  simp at hu11
  try simp only [and_assoc] at hu11
  obtain ⟨rfl, rfl⟩ := hu11
  obtain ⟨X3_13, d3_13, hu11, hv13⟩ := f13
  replace hu11 := hv11.symm.trans hu11
  simp at hu11
  try simp only [and_assoc] at hu11
  obtain ⟨rfl, rfl⟩ := hu11
  obtain ⟨X3_14, d3_14, hu11, hv14⟩ := f14
  replace hu11 := hv11.symm.trans hu11
  simp at hu11
  try simp only [and_assoc] at hu11
  obtain ⟨rfl, rfl⟩ := hu11
  obtain ⟨X3_15, d3_15, hu11, hv15⟩ := f15
  replace hu11 := hv11.symm.trans hu11
  simp at hu11
  try simp only [and_assoc] at hu11
  obtain ⟨rfl, rfl⟩ := hu11
  obtain ⟨X3_16, d3_16, hu11, hv16⟩ := f16
  replace hu11 := hv11.symm.trans hu11
  simp at hu11
  try simp only [and_assoc] at hu11
  obtain ⟨rfl, rfl⟩ := hu11
  obtain ⟨hs11, hse11, he11⟩ := hE 11 (by decide +kernel)
  change w3.heap.size ≤ _ at hs11
  clear hE hA hF
  simp only [putDs, Nat.reduceAdd, hv0, hv1, hv2, hv3, hv4, hv5, hv6, hv7, hv8, hv9, hv10, hv11, hv12, hv13, hv14, hv15, hv16]
  clear hv0 hv1 hv2 hv3 hv4 hv5 hv6 hv7 hv8 hv9 hv10 hv11 hv12 hv13 hv14 hv15 hv16
  generalize (gh 11).s = s4_11 at *
  generalize (gh 11).e = e4_11 at *
  clear HF
  have hb := hB
  clear hB
  have hzw4 : w3.heap.size ≤ w4.heap.size := hb.size
  have hzzw4 : w.heap.size ≤ w4.heap.size := by omega
  replace HB := Lib.hid (below_then HB.out hb HB.out.size)
  replace HOE := Lib.hid (HOE.out.below hb)
  replace HOR := Lib.hid (HOR.out.below hb)
  replace HOH := Lib.hid (HOH.out.below hb)
  replace HXb := Lib.hid (HXb.out.below hb)
  clear hxb hfb hkb
  have hxb := HXb.out.2.1
  have hfb := HXb.out.2.2
  have hkb := HXb.out.1
  replace HXg := Lib.hid (HXg.out.below hb)
  clear hxg hfg hkg
  have hxg := HXg.out.2.1
  have hfg := HXg.out.2.2
  have hkg := HXg.out.1
  clear hb
  have HOU : Hid (RowB w4 (s4_11) (e4_11) ((.slice X3 cl1.length d3, cl1.length)) (strs cl1)) := hr3
  have hr39 : e4_11 ≤ w4.heap.size ∧ w.heap.size ≤ s4_11 ∧ s4_11 ≤ e4_11 := by omega
  clear hr3 hpe
  simp only [Act.put, List.setIfInBounds_toArray, List.set_cons_zero, List.set_cons_succ]
  have hs39 : w4.heap.size ≤ w4.heap.size := Nat.le_refl _
  go_wp2_with fail
  refine wp_named (fun w5 hw => ?_)
  have hz5 : w4.heap.size + 0 ≤ w5.heap.size := by rw [hw]; first | omega | (simp [World.setCell]; done) | (simp [World.setCell]; omega)
  have hzz5 : w.heap.size ≤ w5.heap.size := by omega
  have hbn : Below w4.heap.size w4 w5 := by rw [hw]; exact (by ((repeat (first | ((with_reducible refine Below.alloc ?_ ?_ _); rotate_left 1; (focus (first | omega | (simp; done) | (simp; omega)))) | (with_reducible refine Below.drew ?_) | ((with_reducible refine Below.setCell ?_ ?_ _); rotate_left 1; (focus (first | omega | (simp; done) | (simp; omega)))))); exact Below.refl _ _))
  replace HB := Lib.hid (below_then HB.out hbn HB.out.size)
  replace HOE := Lib.hid (HOE.out.below hbn)
  replace HOR := Lib.hid (HOR.out.below hbn)
  replace HOH := Lib.hid (HOH.out.below hbn)
  replace HOU := Lib.hid (HOU.out.below hbn)
  replace HXb := Lib.hid (HXb.out.below hbn)
  clear hxb hfb hkb
  have hxb := HXb.out.2.1
  have hfb := HXb.out.2.2
  have hkb := HXb.out.1
  replace HXg := Lib.hid (HXg.out.below hbn)
  clear hxg hfg hkg
  have hxg := HXg.out.2.1
  have hfg := HXg.out.2.2
  have hkg := HXg.out.1
  clear hbn
  clear hw
  obtain ⟨F, HF⟩ : ∃ F : Facts, Hid (F = fun iq xq tqs dsq uq => match iq with
   | 0 => xq.v = .pointer (some ⟨(w.heap.size), 0, none⟩)
   | 1 => xq.v = .int .i64 width
   | 2 => xq.v = .pointer (some ⟨(w.heap.size), 0, none⟩)
   | 3 => xq.v = .int .i64 width
   | 4 => xq.v = .pointer (some ⟨(w.heap.size), 2, none⟩)
   | 5 => xq.v = .slice R nr cr
   | 6 => xq.v = .int .i64 (nD : Nat)
   | 7 => xq.v = .slice R nD cr
   | 8 => ∃ (X2 : Option Addr) (d2 : Nat), xq.v = .slice X2 nD d2 ∧ (RowB uq xq.s xq.e (.slice X2 nD d2, nD) (strs tt))
   | 9 => xq.v = .int .i64 (nC : Nat)
   | 10 => ∃ (X4 : Option Addr) (d4 : Nat), xq.v = .tuple #[.slice X4 cl2.length d4, .bool true] ∧ (RowB uq xq.s xq.e (.slice X4 cl2.length d4, cl2.length) (strs cl2))
   | 11 => (match tqs, dsq with | [], [yq0] => ∃ (X4 : Option Addr) (d4 : Nat), yq0.v = .tuple #[.slice X4 cl2.length d4, .bool true] ∧ xq.v = .tuple #[.slice X4 cl2.length d4, .bool true] | _, _ => False)
   | 12 => (match tqs, dsq with | [], [yq0] => ∃ (X4 : Option Addr) (d4 : Nat), yq0.v = .tuple #[.slice X4 cl2.length d4, .bool true] ∧ xq.v = .slice X4 cl2.length d4 | _, _ => False)
   | 13 => (match tqs, dsq with | [], [yq0] => ∃ (X4 : Option Addr) (d4 : Nat), yq0.v = .tuple #[.slice X4 cl2.length d4, .bool true] ∧ xq.v = .bool true | _, _ => False)
   | 14 => (match tqs, dsq with | [], [yq0] => ∃ (X4 : Option Addr) (d4 : Nat), yq0.v = .tuple #[.slice X4 cl2.length d4, .bool true] ∧ xq.v = .slice X4 cl2.length d4 | _, _ => False)
   | 15 => (match tqs, dsq with | [], [yq0] => ∃ (X4 : Option Addr) (d4 : Nat), yq0.v = .tuple #[.slice X4 cl2.length d4, .bool true] ∧ xq.v = .bool true | _, _ => False)
   | _ => False) := ⟨_, rfl⟩
  refine wp_region_facts [[], [], [], [], [], [], [], [], [], [], [], [10], [10], [10], [10], [10]] [[], [], [], [], [], [], [], [], [], [], [], [], [], [], [], []] [some 66, some 67, some 68, some 69, some 70, some 71, some 72, some 73, some 74, some 75, some 76, some 65, some 77, some 78, some 16, some 17] none 0 0 (.inl rfl) F (by kernel_rfl) (by kernel_rfl) (by kernel_rfl) ?_ ⟨?_, ?_, ?_, ?_, ?_, ?_, ?_, ?_, ?_, ?_, ?_, ?_, ?_, ?_, ?_, ?_, trivial⟩ ?_
  ·rw [HF.out]; intro iq xq tqs dsq uq u' hi hf hs hW hx hbk
   have kx : ∀ b, xq.s ≤ b → b < xq.e → u'.heap[b]? = uq.heap[b]? := fun b h1 h2 => hbk b (.inr (.inl ⟨h1, h2⟩))
   have kt : ∀ t ∈ tqs, ∀ b, t.s ≤ b → b < t.e → u'.heap[b]? = uq.heap[b]? := fun t ht b h1 h2 => hbk b (.inr (.inr ⟨t, ht, h1, h2⟩))
   match iq with
   | 0 => exact hf
   | 1 => exact hf
   | 2 => exact hf
   | 3 => exact hf
   | 4 => exact hf
   | 5 => exact hf
   | 6 => exact hf
   | 7 => exact hf
   | 8 => obtain ⟨X2, d2, hv, p0⟩ := hf; exact ⟨X2, d2, hv, p0.keep (fun k _ h1 h2 => kx k h1 h2)⟩
   | 9 => exact hf
   | 10 => obtain ⟨X4, d4, hv, p0⟩ := hf; exact ⟨X4, d4, hv, p0.keep (fun k _ h1 h2 => kx k h1 h2)⟩
   | 11 => exact hf
   | 12 => exact hf
   | 13 => exact hf
   | 14 => exact hf
   | 15 => exact hf
  ·intro gh ρ u hc hf1 hg1 hd h0 hb he ha hF
   have r5 : ρ (.tmp 5) = .pointer (some ⟨w.heap.size, 0, none⟩) := (h0 5 (by decide +kernel)).trans rfl
   clear  hd h0 he ha hF
   go_simp
   rw [HF.out]
   exact ⟨OnlyL.refl _ _, rfl⟩
  ·intro gh ρ u hc hf1 hg1 hd h0 hb he ha hF
   replace hb : Below w5.heap.size w5 u := hb.drew.below (by decide +kernel)
   have hbz : w5.heap.size ≤ u.heap.size := hb.size
   have r66 : ρ (.tmp 66) = .pointer (some ⟨(w.heap.size), 0, none⟩) := by have h := hF 0 (by decide +kernel) (by decide +kernel); rw [HF.out] at h; exact (hd 0 (by decide +kernel) 66 (by kernel_rfl)).trans h
   have q_b := (HXb.out.below hb).2.1
   have k_b : w.heap.size < u.heap.size := by have := HXb.out.1; omega
   clear  hd h0 he ha hF
   go_simp
   rw [HF.out]
   exact ⟨OnlyL.refl _ _, rfl⟩
  ·intro gh ρ u hc hf1 hg1 hd h0 hb he ha hF
   have r5 : ρ (.tmp 5) = .pointer (some ⟨w.heap.size, 0, none⟩) := (h0 5 (by decide +kernel)).trans rfl
   clear  hd h0 he ha hF
   go_simp
   rw [HF.out]
   exact ⟨OnlyL.refl _ _, rfl⟩
  ·intro gh ρ u hc hf1 hg1 hd h0 hb he ha hF
   replace hb : Below w5.heap.size w5 u := hb.drew.below (by decide +kernel)
   have hbz : w5.heap.size ≤ u.heap.size := hb.size
   have r68 : ρ (.tmp 68) = .pointer (some ⟨(w.heap.size), 0, none⟩) := by have h := hF 2 (by decide +kernel) (by decide +kernel); rw [HF.out] at h; exact (hd 2 (by decide +kernel) 68 (by kernel_rfl)).trans h
   have q_b := (HXb.out.below hb).2.1
   have k_b : w.heap.size < u.heap.size := by have := HXb.out.1; omega
   clear  hd h0 he ha hF
   go_simp
   rw [HF.out]
   exact ⟨OnlyL.refl _ _, rfl⟩
  ·intro gh ρ u hc hf1 hg1 hd h0 hb he ha hF
   have r5 : ρ (.tmp 5) = .pointer (some ⟨w.heap.size, 0, none⟩) := (h0 5 (by decide +kernel)).trans rfl
   clear  hd h0 he ha hF
   go_simp
   rw [HF.out]
   exact ⟨OnlyL.refl _ _, rfl⟩
  ·intro gh ρ u hc hf1 hg1 hd h0 hb he ha hF
   replace hb : Below w5.heap.size w5 u := hb.drew.below (by decide +kernel)
   have hbz : w5.heap.size ≤ u.heap.size := hb.size
   have r70 : ρ (.tmp 70) = .pointer (some ⟨(w.heap.size), 2, none⟩) := by have h := hF 4 (by decide +kernel) (by decide +kernel); rw [HF.out] at h; exact (hd 4 (by decide +kernel) 70 (by kernel_rfl)).trans h
   have q_b := (HXb.out.below hb).2.1
   have k_b : w.heap.size < u.heap.size := by have := HXb.out.1; omega
   clear  hd h0 he ha hF
   go_simp
   rw [HF.out]
   exact ⟨OnlyL.refl _ _, rfl⟩
  ·intro gh ρ u hc hf1 hg1 hd h0 hb he ha hF
   have r4 : ρ (.tmp 4) = .int .i64 (nD : Nat) := (h0 4 (by decide +kernel)).trans rfl
   clear  hd h0 he ha hF
   go_simp
   rw [HF.out]
   exact ⟨OnlyL.refl _ _, rfl⟩
  ·intro gh ρ u hc hf1 hg1 hd h0 hb he ha hF
   have r71 : ρ (.tmp 71) = .slice R nr cr := by have h := hF 5 (by decide +kernel) (by decide +kernel); rw [HF.out] at h; exact (hd 5 (by decide +kernel) 71 (by kernel_rfl)).trans h
   have r72 : ρ (.tmp 72) = .int .i64 (nD : Nat) := by have h := hF 6 (by decide +kernel) (by decide +kernel); rw [HF.out] at h; exact (hd 6 (by decide +kernel) 72 (by kernel_rfl)).trans h
   clear  hd h0 he ha hF
   go_simp
   rw [HF.out]
   exact ⟨OnlyL.refl _ _, rfl⟩
  ·intro gh ρ u hc hf1 hg1 hd h0 hb he ha hF
   replace hb : Below w5.heap.size w5 u := hb.drew.below (by decide +kernel)
   have hbz : w5.heap.size ≤ u.heap.size := hb.size
   have r69 : ρ (.tmp 69) = .int .i64 width := by have h := hF 3 (by decide +kernel) (by decide +kernel); rw [HF.out] at h; exact (hd 3 (by decide +kernel) 69 (by kernel_rfl)).trans h
   have r73 : ρ (.tmp 73) = .slice R nD cr := by have h := hF 7 (by decide +kernel) (by decide +kernel); rw [HF.out] at h; exact (hd 7 (by decide +kernel) 73 (by kernel_rfl)).trans h
   clear  hd h0 he ha hF
   go_simp
   have q_b := (HXb.out.below hb)
   refine (HTK2.out _ (HOR.out.below hb).base).mono ?_
   rintro e u1 ⟨X2, d2, rfl, ho, hb1⟩
   rw [HF.out]
   exact ⟨_, rfl, OnlyL.of_below hb1, X2, d2, rfl, RowB.of ho⟩
  ·intro gh ρ u hc hf1 hg1 hd h0 hb he ha hF
   have r3 : ρ (.tmp 3) = .int .i64 (nC : Nat) := (h0 3 (by decide +kernel)).trans rfl
   clear  hd h0 he ha hF
   go_simp
   rw [HF.out]
   exact ⟨OnlyL.refl _ _, rfl⟩
  ·intro gh ρ u hc hf1 hg1 hd h0 hb he ha hF
   replace hb : Below w5.heap.size w5 u := hb.drew.below (by decide +kernel)
   have hbz : w5.heap.size ≤ u.heap.size := hb.size
   have r67 : ρ (.tmp 67) = .int .i64 width := by have h := hF 1 (by decide +kernel) (by decide +kernel); rw [HF.out] at h; exact (hd 1 (by decide +kernel) 67 (by kernel_rfl)).trans h
   have f8 : ∃ (X2 : Option Addr) (d2 : Nat), (gh 8).v = .slice X2 nD d2 ∧ (RowB u (gh 8).s (gh 8).e (.slice X2 nD d2, nD) (strs tt)) := by have h := hF 8 (by decide +kernel) (by decide +kernel); rw [HF.out] at h; exact h
   obtain ⟨X2, d2, hv8, g8_0⟩ := f8
   have r74 : ρ (.tmp 74) = .slice X2 nD d2 := (hd 8 (by decide +kernel) 74 (by kernel_rfl)).trans hv8
   have r75 : ρ (.tmp 75) = .int .i64 (nC : Nat) := by have h := hF 9 (by decide +kernel) (by decide +kernel); rw [HF.out] at h; exact (hd 9 (by decide +kernel) 75 (by kernel_rfl)).trans h
   clear hv8 hd h0 he ha hF
   go_simp
   have q_b := (HXb.out.below hb)
   refine (HN2.out _ _ _ (Own.of_ownsRow g8_0.1).rd.base (row_cap g8_0.1)).mono ?_
   rintro e u1 ⟨X4, d4, rfl, ho, hb1⟩
   rw [HF.out]
   exact ⟨_, rfl, OnlyL.of_below hb1, X4, d4, rfl, RowB.of ho⟩
  ·intro gh ρ u hc hf1 hg1 hd h0 hb he ha hF
   have f10 : ∃ (X4 : Option Addr) (d4 : Nat), (gh 10).v = .tuple #[.slice X4 cl2.length d4, .bool true] ∧ (RowB u (gh 10).s (gh 10).e (.slice X4 cl2.length d4, cl2.length) (strs cl2)) := by have h := hF 10 (by decide +kernel) (by decide +kernel); rw [HF.out] at h; exact h
   obtain ⟨X4, d4, hv10, g10_0⟩ := f10
   have hrt10 := hv10
   have r76 : ρ (.tmp 76) = .tuple #[.slice X4 cl2.length d4, .bool true] := (hd 10 (by decide +kernel) 76 (by kernel_rfl)).trans hv10
   have HRT10 := Lib.hid hrt10
   clear hv10 hrt10 hd h0 he ha hF
   go_simp
   rw [HF.out]
   exact ⟨OnlyL.refl _ _, X4, d4, HRT10.out, rfl⟩
  ·intro gh ρ u hc hf1 hg1 hd h0 hb he ha hF
   have f11 : ∃ (X4 : Option Addr) (d4 : Nat), (gh 10).v = .tuple #[.slice X4 cl2.length d4, .bool true] ∧ (gh 11).v = .tuple #[.slice X4 cl2.length d4, .bool true] := by have h := hF 11 (by decide +kernel) (by decide +kernel); rw [HF.out] at h; exact h
   obtain ⟨X4, d4, hrt10, hv11⟩ := f11
   have r65 : ρ (.tmp 65) = .tuple #[.slice X4 cl2.length d4, .bool true] := (hd 11 (by decide +kernel) 65 (by kernel_rfl)).trans hv11
   have HRT10 := Lib.hid hrt10
   clear hv11 hrt10 hd h0 he ha hF
   go_simp
   rw [HF.out]
   exact ⟨OnlyL.refl _ _, X4, d4, HRT10.out, rfl⟩
  ·intro gh ρ u hc hf1 hg1 hd h0 hb he ha hF
   have f11 : ∃ (X4 : Option Addr) (d4 : Nat), (gh 10).v = .tuple #[.slice X4 cl2.length d4, .bool true] ∧ (gh 11).v = .tuple #[.slice X4 cl2.length d4, .bool true] := by have h := hF 11 (by decide +kernel) (by decide +kernel); rw [HF.out] at h; exact h
   obtain ⟨X4, d4, hrt10, hv11⟩ := f11
   have r65 : ρ (.tmp 65) = .tuple #[.slice X4 cl2.length d4, .bool true] := (hd 11 (by decide +kernel) 65 (by kernel_rfl)).trans hv11
   have HRT10 := Lib.hid hrt10
   clear hv11 hrt10 hd h0 he ha hF
   go_simp
   rw [HF.out]
   exact ⟨OnlyL.refl _ _, X4, d4, HRT10.out, rfl⟩
  ·intro gh ρ u hc hf1 hg1 hd h0 hb he ha hF
   have f12 : ∃ (X4 : Option Addr) (d4 : Nat), (gh 10).v = .tuple #[.slice X4 cl2.length d4, .bool true] ∧ (gh 12).v = .slice X4 cl2.length d4 := by have h := hF 12 (by decide +kernel) (by decide +kernel); rw [HF.out] at h; exact h
   obtain ⟨X4, d4, hrt10, hv12⟩ := f12
   have r77 : ρ (.tmp 77) = .slice X4 cl2.length d4 := (hd 12 (by decide +kernel) 77 (by kernel_rfl)).trans hv12
   have HRT10 := Lib.hid hrt10
   clear hv12 hrt10 hd h0 he ha hF
   go_simp
   rw [HF.out]
   exact ⟨OnlyL.refl _ _, X4, d4, HRT10.out, rfl⟩
  ·intro gh ρ u hc hf1 hg1 hd h0 hb he ha hF
   have f13 : ∃ (X4 : Option Addr) (d4 : Nat), (gh 10).v = .tuple #[.slice X4 cl2.length d4, .bool true] ∧ (gh 13).v = .bool true := by have h := hF 13 (by decide +kernel) (by decide +kernel); rw [HF.out] at h; exact h
   obtain ⟨X4, d4, hrt10, hv13⟩ := f13
   have r78 : ρ (.tmp 78) = .bool true := (hd 13 (by decide +kernel) 78 (by kernel_rfl)).trans hv13
   have HRT10 := Lib.hid hrt10
   clear hv13 hrt10 hd h0 he ha hF
   go_simp
   rw [HF.out]
   exact ⟨OnlyL.refl _ _, X4, d4, HRT10.out, rfl⟩
  intro gh w6 hB hE hA hF
  replace hB : Below w5.heap.size w5 w6 := hB.below rfl
  have f0 : (gh 0).v = .pointer (some ⟨(w.heap.size), 0, none⟩) := by have h := hF 0 (by decide +kernel) (by decide +kernel); rw [HF.out] at h; exact h
  have f1 : (gh 1).v = .int .i64 width := by have h := hF 1 (by decide +kernel) (by decide +kernel); rw [HF.out] at h; exact h
  have f2 : (gh 2).v = .pointer (some ⟨(w.heap.size), 0, none⟩) := by have h := hF 2 (by decide +kernel) (by decide +kernel); rw [HF.out] at h; exact h
  have f3 : (gh 3).v = .int .i64 width := by have h := hF 3 (by decide +kernel) (by decide +kernel); rw [HF.out] at h; exact h
  have f4 : (gh 4).v = .pointer (some ⟨(w.heap.size), 2, none⟩) := by have h := hF 4 (by decide +kernel) (by decide +kernel); rw [HF.out] at h; exact h
  have f5 : (gh 5).v = .slice R nr cr := by have h := hF 5 (by decide +kernel) (by decide +kernel); rw [HF.out] at h; exact h
  have f6 : (gh 6).v = .int .i64 (nD : Nat) := by have h := hF 6 (by decide +kernel) (by decide +kernel); rw [HF.out] at h; exact h
  have f7 : (gh 7).v = .slice R nD cr := by have h := hF 7 (by decide +kernel) (by decide +kernel); rw [HF.out] at h; exact h
  have f8 : ∃ (X2 : Option Addr) (d2 : Nat), (gh 8).v = .slice X2 nD d2 ∧ (RowB w6 (gh 8).s (gh 8).e (.slice X2 nD d2, nD) (strs tt)) := by have h := hF 8 (by decide +kernel) (by decide +kernel); rw [HF.out] at h; exact h
  have f9 : (gh 9).v = .int .i64 (nC : Nat) := by have h := hF 9 (by decide +kernel) (by decide +kernel); rw [HF.out] at h; exact h
  have f10 : ∃ (X4 : Option Addr) (d4 : Nat), (gh 10).v = .tuple #[.slice X4 cl2.length d4, .bool true] ∧ (RowB w6 (gh 10).s (gh 10).e (.slice X4 cl2.length d4, cl2.length) (strs cl2)) := by have h := hF 10 (by decide +kernel) (by decide +kernel); rw [HF.out] at h; exact h
  have f11 : ∃ (X4 : Option Addr) (d4 : Nat), (gh 10).v = .tuple #[.slice X4 cl2.length d4, .bool true] ∧ (gh 11).v = .tuple #[.slice X4 cl2.length d4, .bool true] := by have h := hF 11 (by decide +kernel) (by decide +kernel); rw [HF.out] at h; exact h
  have f12 : ∃ (X4 : Option Addr) (d4 : Nat), (gh 10).v = .tuple #[.slice X4 cl2.length d4, .bool true] ∧ (gh 12).v = .slice X4 cl2.length d4 := by have h := hF 12 (by decide +kernel) (by decide +kernel); rw [HF.out] at h; exact h
  have f13 : ∃ (X4 : Option Addr) (d4 : Nat), (gh 10).v = .tuple #[.slice X4 cl2.length d4, .bool true] ∧ (gh 13).v = .bool true := by have h := hF 13 (by decide +kernel) (by decide +kernel); rw [HF.out] at h; exact h
  have f14 : ∃ (X4 : Option Addr) (d4 : Nat), (gh 10).v = .tuple #[.slice X4 cl2.length d4, .bool true] ∧ (gh 14).v = .slice X4 cl2.length d4 := by have h := hF 14 (by decide +kernel) (by decide +kernel); rw [HF.out] at h; exact h
  have f15 : ∃ (X4 : Option Addr) (d4 : Nat), (gh 10).v = .tuple #[.slice X4 cl2.length d4, .bool true] ∧ (gh 15).v = .bool true := by have h := hF 15 (by decide +kernel) (by decide +kernel); rw [HF.out] at h; exact h
  obtain ⟨X2, d2, hv8, _⟩ := f8
  obtain ⟨X4, d4, hv10, hr4⟩ := f10
  have hv0 := f0
  have hv1 := f1
  have hv2 := f2
  have hv3 := f3
  have hv4 := f4
  have hv5 := f5
  have hv6 := f6
  have hv7 := f7
  have hv9 := f9
  obtain ⟨X4_11, d4_11, hu10, hv11⟩ := f11
  replace hu10 := hv10.symm.trans hu10
  simp at hu10
  try simp only [and_assoc] at hu10
  obtain ⟨rfl, rfl⟩ := hu10
  obtain ⟨X4_12, d4_12, hu10, hv12⟩ := f12
  replace hu10 := hv10.symm.trans hu10
  simp at hu10
  try simp only [and_assoc] at hu10
  obtain ⟨rfl, rfl⟩ := hu10
  obtain ⟨X4_13, d4_13, hu10, hv13⟩ := f13
  replace hu10 := hv10.symm.trans hu10
  simp at hu10
  try simp only [and_assoc] at hu10
  obtain ⟨rfl, rfl⟩ := hu10
  obtain ⟨X4_14, d4_14, hu10, hv14⟩ := f14
  replace hu10 := hv10.symm.trans hu10
  simp at hu10
  try simp only [and_assoc] at hu10
  obtain ⟨rfl, rfl⟩ := hu10
  obtain ⟨X4_15, d4_15, hu10, hv15⟩ := f15
  replace hu10 := hv10.symm.trans hu10
  simp at hu10
  try simp only [and_assoc] at hu10
  obtain ⟨rfl, rfl⟩ := hu10
  obtain ⟨hs10, hse10, he10⟩ := hE 10 (by decide +kernel)
  change w5.heap.size ≤ _ at hs10
  clear hE hA hF
  simp only [putDs, Nat.reduceAdd, hv0, hv1, hv2, hv3, hv4, hv5, hv6, hv7, hv8, hv9, hv10, hv11, hv12, hv13, hv14, hv15]
  clear hv0 hv1 hv2 hv3 hv4 hv5 hv6 hv7 hv8 hv9 hv10 hv11 hv12 hv13 hv14 hv15
  generalize (gh 10).s = s6_10 at *
  generalize (gh 10).e = e6_10 at *
  clear HF
  have hb := hB
  clear hB
  have hzw6 : w5.heap.size ≤ w6.heap.size := hb.size
  have hzzw6 : w.heap.size ≤ w6.heap.size := by omega
  replace HB := Lib.hid (below_then HB.out hb HB.out.size)
  replace HOE := Lib.hid (HOE.out.below hb)
  replace HOR := Lib.hid (HOR.out.below hb)
  replace HOH := Lib.hid (HOH.out.below hb)
  replace HOU := Lib.hid (HOU.out.below hb)
  replace HXb := Lib.hid (HXb.out.below hb)
  clear hxb hfb hkb
  have hxb := HXb.out.2.1
  have hfb := HXb.out.2.2
  have hkb := HXb.out.1
  replace HXg := Lib.hid (HXg.out.below hb)
  clear hxg hfg hkg
  have hxg := HXg.out.2.1
  have hfg := HXg.out.2.2
  have hkg := HXg.out.1
  clear hb
  have HOV : Hid (RowB w6 (s6_10) (e6_10) ((.slice X4 cl2.length d4, cl2.length)) (strs cl2)) := hr4
  clear hr4 hpr
  simp only [Act.put, List.setIfInBounds_toArray, List.set_cons_zero, List.set_cons_succ]
  clear HLV2 HTK2 HN1 HN2 HW
  go_wp2
  refine bodyPost_ret (v := .tuple #[.slice X3 cl1.length d3, .slice X4 cl2.length d4, .int .i64 0]) (by simp [results, Tryz.results76, go_sem]) rfl ?_
  rw [HD1.out, HD2.out, HD3.out]
  exact ⟨X3, d3, _, _, X4, d4, _, _, rfl, ⟨by omega, by omega, HOU.out.ownB rfl (by omega) (by omega)⟩, ⟨by omega, by omega, HOV.out.ownB rfl (by omega) (by omega)⟩, by omega, HB.out⟩
def bwC (width : Int) (es : List Ent) (rs : List Rcp) (hs : List Hd) (z1 : Int) (l1 : List ByteArray) (z2 : Int) (l2 : List ByteArray) (h : Hd) (a b c d : Int) : Int := if brkOk width es rs hs z1 l1 z2 l2 h then btC (lastHd hs) a b c d else 1
def bwL1 (width : Int) (es : List Ent) (rs : List Rcp) (hs : List Hd) (z1 : Int) (l1 : List ByteArray) (z2 : Int) (l2 : List ByteArray) (h : Hd) (a b c d : Int) : List ByteArray := if brkOk width es rs hs z1 l1 z2 l2 h then btL1 width es (lastHd hs) a b c d else []
def bwL2 (width : Int) (es : List Ent) (rs : List Rcp) (hs : List Hd) (z1 : Int) (l1 : List ByteArray) (z2 : Int) (l2 : List ByteArray) (h : Hd) (a b c d : Int) : List ByteArray := if brkOk width es rs hs z1 l1 z2 l2 h then btL2 width rs (lastHd hs) a b c d else []
end Go.Proofs.YtmmepogjocfefaaGreat
