/- Part 8 of the proof of FnDeeds: lemmas and contracts. -/
import Derived.Test.YtoccjgcokffkbaaGreatTd7
namespace Go.Proofs.YtoccjgcokffkbaaGreat
set_option linter.unusedVariables false
set_option linter.unusedSimpArgs false
set_option maxHeartbeats 20000000
section
open Go.RowKit
def dS (width size : Int) (root : ByteArray) : Bool := inR size 0 512 && decide ((root.size : Int) = width) && (decide (0 < size) || decide (root = aQ width))
def bu (width : Int) (h : Hd) : Bool := inR width 1 32 && inR h.num 0 399 && dS width h.size h.root && dS width h.taken h.troot
set_option maxRecDepth 100000 in
theorem rootOk_c (width size : Int) (root : ByteArray) (w : World) (hr : root.size ≤ 1048576) : Calls Tryz.prog 186 #[.int .i64 width, .int .i64 size, .string root] w fun e w' => e = .returned (.bool (dS width size root)) ∧ Below w.heap.size w w' := by
 have hr2 : (root.size : Int) ≤ 1048576 := by omega
 go_enter Tryz.func186, Tryz.ntmps186
 go_wp2_with fail
 refine (isSize_c size _).mono ?_
 rintro e w1 ⟨rfl, rfl⟩
 rcases hq : inR size 0 512 with _ | _
 ·go_wp2
  go_ret
  exact ⟨aj (by rw [dS, hq]; rfl), Below.refl _ _⟩
 have HQ := lH hq
 clear hq
 by_cases hl : (root.size : Int) = width
 ·subst hl
  by_cases hp : 0 < size
  ·go_wp2
   go_ret
   exact ⟨aj (by rw [dS, HQ.out]; simp [hp]), Below.refl _ _⟩
  go_wp2_with fail
  refine (emptyRoot_c root.size _).mono ?_
  rintro e w1 ⟨rfl, hb⟩
  have HB := lH hb
  clear hb
  have hbq := beq_iff (a := root) (b := aQ root.size)
  have HBQ := lH hbq
  clear hbq; go_wp2
  go_ret
  exact ⟨aj (by rw [dS, HQ.out, HBQ.out]; simp [hp]), HB.out⟩
 go_wp2
 go_ret
 exact ⟨aj (by rw [dS, HQ.out]; simp [hl]), Below.refl _ _⟩
set_option maxRecDepth 100000 in
theorem implHeadOk_c (width : Int) (h : Hd) (w : World) (hz : h.bulk ≤ 1048576) : Calls Tryz.prog 145 #[.int .i64 width, .agg #[.int .i64 h.num, .int .i64 h.size, .string h.root, .int .i64 h.taken, .string h.troot]] w fun e w' => e = .returned (.bool (bu width h)) ∧ Below w.heap.size w w' := by
 have hr1 : h.root.size ≤ 1048576 := by unfold Hd.bulk at hz; omega
 have hr2 : h.troot.size ≤ 1048576 := by unfold Hd.bulk at hz; omega
 clear hz
 have HB : Hid (Below w.heap.size w w) := Below.refl _ _
 go_enter Tryz.func145, Tryz.ntmps145
 go_wp2_with fail
 refine af (fun w1 hw => ?_)
 have hz1 : w.heap.size + 1 ≤ w1.heap.size := zA
 have hbn : Below w.heap.size w w1 := zB
 replace HB := bT HB hbn
 clear hbn
 have HXh : Hid (aa w1 (w.heap.size) [.int .i64 h.num, .int .i64 h.size, .string h.root, .int .i64 h.taken, .string h.troot]) := zG5
 obtain ⟨hkh, hxh, hfh⟩ := HXh.out
 clear hw
 refine (isWidth_c width _).mono ?_
 rintro e w2_ ⟨rfl, rfl⟩
 rcases hq1 : inR width 1 32 with _ | _
 ·go_wp2
  go_ret
  exact ⟨aj (by rw [bu, hq1]; rfl), HB.out⟩
 have HQ1 := lH hq1
 clear hq1
 go_wp2_with fail
 refine (eP h.num 0 399 _).mono ?_
 rintro e w3_ ⟨rfl, rfl⟩
 rcases hq2 : inR h.num 0 399 with _ | _
 ·go_wp2
  go_ret
  exact ⟨aj (by rw [bu, HQ1.out, hq2]; rfl), HB.out⟩
 have HQ2 := lH hq2
 clear hq2
 go_wp2_with fail
 refine af (fun w4 hw => ?_)
 have hz4 : w1.heap.size + 0 ≤ w4.heap.size := zA
 have hbn : Below w1.heap.size w1 w4 := zB
 replace HB := bT HB hbn
 replace HXh := nB HXh hbn
 clear hxh hfh hkh
 obtain ⟨hkh, hxh, hfh⟩ := HXh.out
 clear hbn
 clear hw
 refine (rootOk_c width h.size h.root _ hr1).mono ?_
 rintro e w5 ⟨rfl, hb⟩
 have hzw5 : w4.heap.size ≤ w5.heap.size := hb.size
 replace HB := bT HB hb
 replace HXh := nB HXh hb
 clear hxh hfh hkh
 obtain ⟨hkh, hxh, hfh⟩ := HXh.out
 clear hb
 rcases hq3 : dS width h.size h.root with _ | _
 ·go_wp2
  go_ret
  exact ⟨aj (by rw [bu, HQ1.out, HQ2.out, hq3]; rfl), HB.out⟩
 have HQ3 := lH hq3
 clear hq3
 go_wp2_with fail
 refine af (fun w6 hw => ?_)
 have hz6 : w5.heap.size + 0 ≤ w6.heap.size := zA
 have hbn : Below w5.heap.size w5 w6 := zB
 replace HB := bT HB hbn
 replace HXh := nB HXh hbn
 clear hxh hfh hkh
 obtain ⟨hkh, hxh, hfh⟩ := HXh.out
 clear hbn
 clear hw
 refine (rootOk_c width h.taken h.troot _ hr2).mono ?_
 rintro e w7 ⟨rfl, hb⟩
 have hzw7 : w6.heap.size ≤ w7.heap.size := hb.size
 replace HB := bT HB hb
 replace HXh := nB HXh hb
 clear hxh hfh hkh
 obtain ⟨hkh, hxh, hfh⟩ := HXh.out
 clear hb
 generalize hq4 : dS width h.taken h.troot = q4 at *
 have HQ4 := lH hq4
 clear hq4
 go_wp2
 go_ret
 exact ⟨aj (by rw [bu, HQ1.out, HQ2.out, HQ3.out, HQ4.out]; rfl), HB.out⟩
set_option maxRecDepth 100000 in
theorem specHeadOk_c (width : Int) (h : Hd) (w : World) (hz : h.bulk ≤ 1048576) : Calls Tryz.prog 160 #[.int .i64 width, .agg #[.int .i64 h.num, .int .i64 h.size, .string h.root, .int .i64 h.taken, .string h.troot]] w fun e w' => e = .returned (.bool (bu width h)) ∧ Below w.heap.size w w' := by
 have hr1 : h.root.size ≤ 1048576 := by unfold Hd.bulk at hz; omega
 have hr2 : h.troot.size ≤ 1048576 := by unfold Hd.bulk at hz; omega
 clear hz
 have hbq := beq_iff (a := h.root) (b := aQ width)
 have HBQ := lH hbq
 have hbt := beq_iff (a := h.troot) (b := aQ width)
 have HBT := lH hbt
 clear hbq hbt
 have HE := lH (fun W => specEmptyRoot_c width W)
 have HK : Hid (bu width h = (inR width 1 32 && inR h.num 0 399 && (inR h.size 0 512 && decide ((h.root.size : Int) = width) && (decide (0 < h.size) || decide (h.root = aQ width))) && (inR h.taken 0 512 && decide ((h.troot.size : Int) = width) && (decide (0 < h.taken) || decide (h.troot = aQ width))))) := lH rfl
 generalize bu width h = hk at *
 generalize aQ width = em at *
 generalize inR width 1 32 = q1 at *
 have HB : Hid (Below w.heap.size w w) := Below.refl _ _
 go_enter Tryz.func160, Tryz.ntmps160
 go_wp2_with fail
 refine af (fun w1 hw => ?_)
 have hz1 : w.heap.size + 1 ≤ w1.heap.size := zA
 have hbn : Below w.heap.size w w1 := zB
 replace HB := bT HB hbn
 clear hbn
 have HXh : Hid (aa w1 (w.heap.size) [.int .i64 h.num, .int .i64 h.size, .string h.root, .int .i64 h.taken, .string h.troot]) := zG5
 obtain ⟨hkh, hxh, hfh⟩ := HXh.out
 clear hw
 refine (HE.out _).mono ?_
 rintro e w2 ⟨rfl, hb⟩
 have hzw2 : w1.heap.size ≤ w2.heap.size := hb.size
 replace HB := bT HB hb
 replace HXh := nB HXh hb
 clear hxh hfh hkh
 obtain ⟨hkh, hxh, hfh⟩ := HXh.out
 clear hb
 rcases q1 with _ | _
 ·go_wp2
  go_ret
  exact ⟨aj (by rw [HK.out]; rfl), HB.out⟩
 go_wp2_with fail
 refine (gK h.num 0 399 _).mono ?_
 rintro e w3_ ⟨rfl, rfl⟩
 generalize inR h.num 0 399 = q2 at *
 rcases q2 with _ | _
 ·go_wp2
  go_ret
  exact ⟨aj (by rw [HK.out]; rfl), HB.out⟩
 go_wp2_with fail
 refine (l04Size_c h.size _).mono ?_
 rintro e w4_ ⟨rfl, rfl⟩
 generalize inR h.size 0 512 = q3 at *
 rcases q3 with _ | _
 ·go_wp2
  go_ret
  exact ⟨aj (by rw [HK.out]; rfl), HB.out⟩
 go_wp2_with fail
 refine (l04Size_c h.taken _).mono ?_
 rintro e w5_ ⟨rfl, rfl⟩
 generalize inR h.taken 0 512 = q4 at *
 rcases q4 with _ | _
 ·go_wp2
  go_ret
  exact ⟨aj (by rw [HK.out]; simp), HB.out⟩
 by_cases hl : (h.root.size : Int) = width
 ·by_cases hl2 : (h.troot.size : Int) = width
  ·have HL := lH hl
   have hd1 : ((h.root.size : Int) != width) = false := by simp [hl]
   have hd2 : ((h.troot.size : Int) != width) = false := by simp [hl2]
   have HL2 := lH hl2
   clear hl hl2
   rcases Decidable.em (0 < h.size) with hp1 | hp1 <;> have HP1 := lH hp1
   ·rcases Decidable.em (0 < h.taken) with hp2 | hp2 <;> have HP2 := lH hp2
    ·go_wp2
     go_ret
     exact ⟨aj (by rw [HK.out]; simp [HL.out, HL2.out, HP1.out, HP2.out]), HB.out⟩
    go_wp2
    go_ret
    exact ⟨aj (by rw [HK.out, HBT.out]; simp [HL.out, HL2.out, HP1.out, HP2.out]), HB.out⟩
   rcases Decidable.em (0 < h.taken) with hp2 | hp2 <;> have HP2 := lH hp2
   ·rcases hc : (h.root.toList == em.toList) with _ | _
    all_goals
     have HC := lH (HBQ.out.symm.trans hc)
     go_wp2
     go_ret
     exact ⟨aj (by rw [HK.out, HC.out]; simp [HL.out, HL2.out, HP1.out, HP2.out]), HB.out⟩
   rcases hc : (h.root.toList == em.toList) with _ | _
   all_goals
    have HC := lH (HBQ.out.symm.trans hc)
    go_wp2
    go_ret
    exact ⟨aj (by
                        have n1 : ¬ 0 < h.size := by have := HP1.out; omega
                        have n2 : ¬ 0 < h.taken := by have := HP2.out; omega
                        rw [HK.out, HC.out]; first | (rw [HBT.out]; simp [HL.out, HL2.out, n1, n2]) | simp [HL.out, HL2.out, n1, n2]), HB.out⟩
  have HL := lH hl
  have hd1 : ((h.root.size : Int) != width) = false := by simp [hl]
  have hd2 : ((h.troot.size : Int) != width) = true := by simp [hl2]
  clear hl; go_wp2
  go_ret
  exact ⟨aj (by rw [HK.out]; simp [hl2]), HB.out⟩
 have hd1 : ((h.root.size : Int) != width) = true := by simp [hl]
 go_wp2
 go_ret
 exact ⟨aj (by rw [HK.out]; simp [hl]), HB.out⟩
set_option maxRecDepth 100000 in
theorem implHeadNew_c (width : Int) (w : World) : Calls Tryz.prog 188 #[.int .i64 width] w fun e w' => e = .returned (.tuple #[.agg #[.int .i64 0, .int .i64 0, .string (aQ width), .int .i64 0, .string (aQ width)], .bool (inR width 1 32)]) ∧ Below w.heap.size w w' := by
 have HN := lH (fun h => emptyT_no (width := width) h)
 have HE := lH (fun W => emptyRoot_c width W)
 have HW := lH (fun W => isWidth_c width W)
 generalize aQ width = em at *
 generalize inR width 1 32 = q1 at *
 have HB : Hid (Below w.heap.size w w) := Below.refl _ _
 go_enter Tryz.func188, Tryz.ntmps188
 go_wp2_with fail
 refine af (fun w1 hw => ?_)
 have hz1 : w.heap.size + 1 ≤ w1.heap.size := zA
 have hbn : Below w.heap.size w w1 := zB
 replace HB := bT HB hbn
 clear hbn
 have HXr : Hid (aa w1 (w.heap.size) [.int .i64 0, .int .i64 0, .string ⟨#[]⟩, .int .i64 0, .string ⟨#[]⟩]) := zG5
 obtain ⟨hkr, hxr, hfr⟩ := HXr.out
 clear hw
 refine (HW.out _).mono ?_
 rintro e w2_ ⟨rfl, rfl⟩
 rcases q1 with _ | _
 ·obtain rfl := HN.out rfl
  go_wp2
  refine ai (fun w3 hw => ?_)
  have hz3 : w1.heap.size + 0 ≤ w3.heap.size := zA
  replace HB : Hid (Below w.heap.size w w3) := zC HB
  replace HXr : Hid (aa w3 (w.heap.size) [.int .i64 0, .int .i64 0, .string ⟨#[]⟩, .int .i64 0, .string ⟨#[]⟩]) := zD HXr
  clear hxr hfr hkr; obtain ⟨hkr, hxr, hfr⟩ := HXr.out; clear hw
  refine bodyPost_ret (v := .tuple #[.agg #[.int .i64 0, .int .i64 0, .string ⟨#[]⟩, .int .i64 0, .string ⟨#[]⟩], .bool false]) (by simp [results, Tryz.results188, go_sem, hxr]) rfl ?_
  exact ⟨rfl, HB.out⟩
 go_wp2_with fail
 refine af (fun w3 hw => ?_)
 have hz3 : w1.heap.size + 0 ≤ w3.heap.size := zA
 have hbn : Below w1.heap.size w1 w3 := zB
 replace HB := bT HB hbn
 replace HXr := nB HXr hbn
 clear hxr hfr hkr
 obtain ⟨hkr, hxr, hfr⟩ := HXr.out
 clear hbn
 clear hw
 refine (HE.out _).mono ?_
 rintro e w4 ⟨rfl, hb⟩
 have hzw4 : w3.heap.size ≤ w4.heap.size := hb.size
 replace HB := bT HB hb
 replace HXr := nB HXr hb
 clear hxr hfr hkr
 obtain ⟨hkr, hxr, hfr⟩ := HXr.out
 clear hb
 go_wp2
 refine ai (fun w5 hw => ?_)
 have hz5 : w4.heap.size + 0 ≤ w5.heap.size := zA
 replace HB : Hid (Below w.heap.size w w5) := zC HB
 replace HXr : Hid (aa w5 (w.heap.size) [.int .i64 0, .int .i64 0, .string em, .int .i64 0, .string em]) := zD HXr
 clear hxr hfr hkr
 obtain ⟨hkr, hxr, hfr⟩ := HXr.out
 clear hw
 refine bodyPost_ret (v := .tuple #[.agg #[.int .i64 0, .int .i64 0, .string em, .int .i64 0, .string em], .bool true]) (by simp [results, Tryz.results188, go_sem, hxr]) rfl ?_
 exact ⟨rfl, HB.out⟩
set_option maxRecDepth 100000 in
theorem specHeadNew_c (width : Int) (w : World) : Calls Tryz.prog 155 #[.int .i64 width] w fun e w' => e = .returned (.tuple #[.agg #[.int .i64 0, .int .i64 0, .string (aQ width), .int .i64 0, .string (aQ width)], .bool (inR width 1 32)]) ∧ Below w.heap.size w w' := by
 have HN := lH (fun h => emptyT_no (width := width) h)
 have HE := lH (fun W => specEmptyRoot_c width W)
 generalize aQ width = em at *
 generalize inR width 1 32 = q1 at *
 have HB : Hid (Below w.heap.size w w) := Below.refl _ _
 go_enter Tryz.func155, Tryz.ntmps155
 go_wp2_with fail
 refine af (fun w1 hw => ?_)
 have hz1 : w.heap.size + 1 ≤ w1.heap.size := zA
 have hbn : Below w.heap.size w w1 := zB
 replace HB := bT HB hbn
 clear hbn
 have HXr : Hid (aa w1 (w.heap.size) [.int .i64 0, .int .i64 0, .string ⟨#[]⟩, .int .i64 0, .string ⟨#[]⟩]) := zG5
 obtain ⟨hkr, hxr, hfr⟩ := HXr.out
 clear hw
 refine (HE.out _).mono ?_
 rintro e w2 ⟨rfl, hb⟩
 have hzw2 : w1.heap.size ≤ w2.heap.size := hb.size
 replace HB := bT HB hb
 replace HXr := nB HXr hb
 clear hxr hfr hkr
 obtain ⟨hkr, hxr, hfr⟩ := HXr.out
 clear hb
 rcases q1 with _ | _
 ·obtain rfl := HN.out rfl
  go_wp2
  refine ai (fun w3 hw => ?_)
  have hz3 : w2.heap.size + 0 ≤ w3.heap.size := zA
  replace HB : Hid (Below w.heap.size w w3) := zC HB
  replace HXr : Hid (aa w3 (w.heap.size) [.int .i64 0, .int .i64 0, .string ⟨#[]⟩, .int .i64 0, .string ⟨#[]⟩]) := zD HXr
  clear hxr hfr hkr; obtain ⟨hkr, hxr, hfr⟩ := HXr.out; clear hw
  refine bodyPost_ret (v := .tuple #[.agg #[.int .i64 0, .int .i64 0, .string ⟨#[]⟩, .int .i64 0, .string ⟨#[]⟩], .bool false]) (by simp [results, Tryz.results155, go_sem, hxr]) rfl ?_
  exact ⟨rfl, HB.out⟩
 go_wp2
 refine ai (fun w3 hw => ?_)
 have hz3 : w2.heap.size + 0 ≤ w3.heap.size := zA
 replace HB : Hid (Below w.heap.size w w3) := zC HB
 replace HXr : Hid (aa w3 (w.heap.size) [.int .i64 0, .int .i64 0, .string em, .int .i64 0, .string em]) := zD HXr
 clear hxr hfr hkr
 obtain ⟨hkr, hxr, hfr⟩ := HXr.out
 clear hw
 refine bodyPost_ret (v := .tuple #[.agg #[.int .i64 0, .int .i64 0, .string em, .int .i64 0, .string em], .bool true]) (by simp [results, Tryz.results155, go_sem, hxr]) rfl ?_
 exact ⟨rfl, HB.out⟩
theorem rootOkM_all {width size : Int} {root : ByteArray} (h : dS width size root = true) : 0 ≤ size ∧ size ≤ 512 ∧ (root.size : Int) = width := by
 rw [dS, Bool.and_eq_true, Bool.and_eq_true] at h
 have h1 := az.1 h.1.1
 have h2 := of_decide_eq_true h.1.2
 exact ⟨h1.1, h1.2, h2⟩
theorem dQ {width : Int} {h : Hd} (hq : bu width h = true) : 0 ≤ h.num ∧ h.num ≤ 399 ∧ 0 ≤ h.size ∧ h.size ≤ 512 ∧ 0 ≤ h.taken ∧ h.taken ≤ 512 ∧ h.root.size ≤ 32 ∧ h.troot.size ≤ 32 := by
 rw [bu, Bool.and_eq_true, Bool.and_eq_true, Bool.and_eq_true] at hq
 have h0 := az.1 hq.1.1.1
 have h1 := az.1 hq.1.1.2
 have h2 := rootOkM_all hq.1.2
 have h3 := rootOkM_all hq.2
 omega
def aL (width : Int) (h : Hd) : ByteArray := if bu width h then cO h.num ++ cO h.size ++ h.root ++ cO h.taken ++ h.troot else ByteArray.empty
theorem gQ (width : Int) (h : Hd) : (aL width h).size ≤ 70 := by
 by_cases hq : bu width h = true
 ·have := dQ hq
  rw [aL, if_pos hq]
  simp only [ByteArray.size_append, bi]
  omega
 rw [aL, if_neg hq]; exact Nat.zero_le _
theorem fB {n : Int} (w : World) (h0 : 0 ≤ n) (h : n ≤ 100000000) : Calls Tryz.prog 110 #[.int .i64 n, .int .i64 2] w fun e w' => e = .returned (.string (cO n)) ∧ Below w.heap.size w w' := by
 have := l03Number_c n 2 w h0 (by omega) (by omega)
 rwa [numUp_2] at this
set_option maxRecDepth 100000 in
theorem implHeadText_c (width : Int) (h : Hd) (w : World) (hz : h.bulk ≤ 1048576) : Calls Tryz.prog 143 #[.int .i64 width, .agg #[.int .i64 h.num, .int .i64 h.size, .string h.root, .int .i64 h.taken, .string h.troot]] w fun e w' => e = .returned (.tuple #[.string (aL width h), .bool (bu width h)]) ∧ Below w.heap.size w w' := by
 have HO := lH (fun W => implHeadOk_c width h W hz)
 rcases hq : bu width h with _ | _
 ·have HM : Hid (aL width h = ⟨#[]⟩) := by rw [Hid, aL, hq]; rfl
  rw [hq] at HO
  clear hq
  have HB : Hid (Below w.heap.size w w) := Below.refl _ _
  go_enter Tryz.func143, Tryz.ntmps143
  go_wp2_with fail
  refine af (fun w1 hw => ?_)
  have hz1 : w.heap.size + 1 ≤ w1.heap.size := zA
  have hbn : Below w.heap.size w w1 := zB
  replace HB := bT HB hbn; clear hbn
  have HXh : Hid (aa w1 (w.heap.size) [.int .i64 h.num, .int .i64 h.size, .string h.root, .int .i64 h.taken, .string h.troot]) := zG5
  obtain ⟨hkh, hxh, hfh⟩ := HXh.out; clear hw
  refine (HO.out _).mono ?_
  rintro e w2 ⟨rfl, hb⟩
  have hzw2 : w1.heap.size ≤ w2.heap.size := hb.size
  replace HB := bT HB hb; replace HXh := nB HXh hb; clear hxh hfh hkh; obtain ⟨hkh, hxh, hfh⟩ := HXh.out; clear hb; go_wp2
  refine bodyPost_ret (v := .tuple #[.string ⟨#[]⟩, .bool false]) (by simp [results, Tryz.results143, go_sem]) rfl ?_
  exact ⟨by rw [HM.out], HB.out⟩
 have hb := dQ hq
 obtain ⟨g1, g2, g3, g4, g5, g6, g7, g8⟩ := hb
 have HM : Hid (aL width h = cO h.num ++ cO h.size ++ h.root ++ cO h.taken ++ h.troot) := by rw [Hid, aL, hq]; rfl
 rw [hq] at HO
 have n1 := lH (fun W => pair_c (n := h.num) W g1 (by omega))
 have n2 := lH (fun W => pair_c (n := h.size) W g3 (by omega))
 have n3 := lH (fun W => pair_c (n := h.taken) W g5 (by omega))
 have e1 := bi h.num
 have e2 := bi h.size
 have e3 := bi h.taken
 clear hq hz
 generalize cO h.num = p1 at *
 generalize cO h.size = p2 at *
 generalize cO h.taken = p3 at *
 obtain ⟨s1, hs1⟩ : ∃ s, s = p1 ++ p2 := ⟨_, rfl⟩
 have c1 := fun W : World => run_string_add_sum (P := Tryz.prog) W p1 p2 (by omega)
 have z1 : s1.size ≤ 4 := by rw [hs1, ByteArray.size_append]; omega
 rw [← hs1] at c1
 have HS1 := lH hs1
 clear hs1
 obtain ⟨s2, hs2⟩ : ∃ s, s = s1 ++ h.root := ⟨_, rfl⟩
 have c2 := fun W : World => run_string_add_sum (P := Tryz.prog) W s1 h.root (by omega)
 have z2 : s2.size ≤ 40 := by rw [hs2, ByteArray.size_append]; omega
 rw [← hs2] at c2
 have HS2 := lH hs2
 clear hs2
 obtain ⟨s3, hs3⟩ : ∃ s, s = s2 ++ p3 := ⟨_, rfl⟩
 have c3 := fun W : World => run_string_add_sum (P := Tryz.prog) W s2 p3 (by omega)
 have z3 : s3.size ≤ 50 := by rw [hs3, ByteArray.size_append]; omega
 rw [← hs3] at c3
 have HS3 := lH hs3
 clear hs3
 obtain ⟨s4, hs4⟩ : ∃ s, s = s3 ++ h.troot := ⟨_, rfl⟩
 have c4 := fun W : World => run_string_add_sum (P := Tryz.prog) W s3 h.troot (by omega)
 have z4 : s4.size ≤ 90 := by rw [hs4, ByteArray.size_append]; omega
 rw [← hs4] at c4
 have HS4 := lH hs4
 clear hs4
 have HB : Hid (Below w.heap.size w w) := Below.refl _ _
 go_enter Tryz.func143, Tryz.ntmps143
 go_wp2_with fail
 refine af (fun w1 hw => ?_)
 have hz1 : w.heap.size + 1 ≤ w1.heap.size := zA
 have hbn : Below w.heap.size w w1 := zB
 replace HB := bT HB hbn
 clear hbn
 have HXh : Hid (aa w1 (w.heap.size) [.int .i64 h.num, .int .i64 h.size, .string h.root, .int .i64 h.taken, .string h.troot]) := zG5
 obtain ⟨hkh, hxh, hfh⟩ := HXh.out
 clear hw
 refine (HO.out _).mono ?_
 rintro e w2 ⟨rfl, hb⟩
 have hzw2 : w1.heap.size ≤ w2.heap.size := hb.size
 replace HB := bT HB hb
 replace HXh := nB HXh hb
 clear hxh hfh hkh
 obtain ⟨hkh, hxh, hfh⟩ := HXh.out
 clear hb
 have l0 : ∀ v : Later w2, v.v.cell? ⟨w.heap.size, 0, none⟩ = some (.int .i64 h.num) := fun v => (ag v _ _ hkh).trans (hxh 0)
 have l1 : ∀ v : Later w2, v.v.cell? ⟨w.heap.size, 1, none⟩ = some (.int .i64 h.size) := fun v => (ag v _ _ hkh).trans (hxh 1)
 have l2 : ∀ v : Later w2, v.v.cell? ⟨w.heap.size, 2, none⟩ = some (.string h.root) := fun v => (ag v _ _ hkh).trans (hxh 2)
 have l3 : ∀ v : Later w2, v.v.cell? ⟨w.heap.size, 3, none⟩ = some (.int .i64 h.taken) := fun v => (ag v _ _ hkh).trans (hxh 3)
 have l4 : ∀ v : Later w2, v.v.cell? ⟨w.heap.size, 4, none⟩ = some (.string h.troot) := fun v => (ag v _ _ hkh).trans (hxh 4)
 go_wp2_with fail
 refine aA (by kernel_rfl) (by kernel_rfl) ?_
 repeat (go_big_quiet_step ((first | with_reducible exact aC (n1.out _) | with_reducible exact aC (n2.out _) | with_reducible exact aC (n3.out _))))
 refine wpQuiet_nil ?_
 intro w9 h9
 have hb9 := aP h9
 have HB9 := lH (ak HB.out hb9 HB.out.size)
 clear l0 l1 l2 l3 l4 h9 hb9 hxh hfh
 go_wp2
 refine bodyPost_ret (v := .tuple #[.string s4, .bool true]) (by simp [results, Tryz.results143, go_sem]) rfl ?_
 exact ⟨by rw [HM.out, HS4.out, HS3.out, HS2.out, HS1.out], HB9.out⟩
set_option maxRecDepth 100000 in
theorem specHeadText_c (width : Int) (h : Hd) (w : World) (hz : h.bulk ≤ 1048576) : Calls Tryz.prog 101 #[.int .i64 width, .agg #[.int .i64 h.num, .int .i64 h.size, .string h.root, .int .i64 h.taken, .string h.troot]] w fun e w' => e = .returned (.tuple #[.string (aL width h), .bool (bu width h)]) ∧ Below w.heap.size w w' := by
 have HO := lH (fun W => specHeadOk_c width h W hz)
 rcases hq : bu width h with _ | _
 ·have HM : Hid (aL width h = ⟨#[]⟩) := by rw [Hid, aL, hq]; rfl
  rw [hq] at HO
  clear hq
  have HB : Hid (Below w.heap.size w w) := Below.refl _ _
  go_enter Tryz.func101, Tryz.ntmps101
  go_wp2_with fail
  refine af (fun w1 hw => ?_)
  have hz1 : w.heap.size + 1 ≤ w1.heap.size := zA
  have hbn : Below w.heap.size w w1 := zB
  replace HB := bT HB hbn; clear hbn
  have HXh : Hid (aa w1 (w.heap.size) [.int .i64 h.num, .int .i64 h.size, .string h.root, .int .i64 h.taken, .string h.troot]) := zG5
  obtain ⟨hkh, hxh, hfh⟩ := HXh.out; clear hw
  refine (HO.out _).mono ?_
  rintro e w2 ⟨rfl, hb⟩
  have hzw2 : w1.heap.size ≤ w2.heap.size := hb.size
  replace HB := bT HB hb; replace HXh := nB HXh hb; clear hxh hfh hkh; obtain ⟨hkh, hxh, hfh⟩ := HXh.out; clear hb; go_wp2
  refine bodyPost_ret (v := .tuple #[.string ⟨#[]⟩, .bool false]) (by simp [results, Tryz.results101, go_sem]) rfl ?_
  exact ⟨by rw [HM.out], HB.out⟩
 have hb := dQ hq
 obtain ⟨g1, g2, g3, g4, g5, g6, g7, g8⟩ := hb
 have HM : Hid (aL width h = cO h.num ++ cO h.size ++ h.root ++ cO h.taken ++ h.troot) := by rw [Hid, aL, hq]; rfl
 rw [hq] at HO
 have n1 := lH (fun W => fB (n := h.num) W g1 (by omega))
 have n2 := lH (fun W => fB (n := h.size) W g3 (by omega))
 have n3 := lH (fun W => fB (n := h.taken) W g5 (by omega))
 have e1 := bi h.num
 have e2 := bi h.size
 have e3 := bi h.taken
 clear hq hz
 generalize cO h.num = p1 at *
 generalize cO h.size = p2 at *
 generalize cO h.taken = p3 at *
 obtain ⟨s1, hs1⟩ : ∃ s, s = p1 ++ p2 := ⟨_, rfl⟩
 have c1 := fun W : World => run_string_add_sum (P := Tryz.prog) W p1 p2 (by omega)
 have z1 : s1.size ≤ 4 := by rw [hs1, ByteArray.size_append]; omega
 rw [← hs1] at c1
 have HS1 := lH hs1
 clear hs1
 obtain ⟨s2, hs2⟩ : ∃ s, s = s1 ++ h.root := ⟨_, rfl⟩
 have c2 := fun W : World => run_string_add_sum (P := Tryz.prog) W s1 h.root (by omega)
 have z2 : s2.size ≤ 40 := by rw [hs2, ByteArray.size_append]; omega
 rw [← hs2] at c2
 have HS2 := lH hs2
 clear hs2
 obtain ⟨s3, hs3⟩ : ∃ s, s = s2 ++ p3 := ⟨_, rfl⟩
 have c3 := fun W : World => run_string_add_sum (P := Tryz.prog) W s2 p3 (by omega)
 have z3 : s3.size ≤ 50 := by rw [hs3, ByteArray.size_append]; omega
 rw [← hs3] at c3
 have HS3 := lH hs3
 clear hs3
 obtain ⟨s4, hs4⟩ : ∃ s, s = s3 ++ h.troot := ⟨_, rfl⟩
 have c4 := fun W : World => run_string_add_sum (P := Tryz.prog) W s3 h.troot (by omega)
 have z4 : s4.size ≤ 90 := by rw [hs4, ByteArray.size_append]; omega
 rw [← hs4] at c4
 have HS4 := lH hs4
 clear hs4
 have HB : Hid (Below w.heap.size w w) := Below.refl _ _
 go_enter Tryz.func101, Tryz.ntmps101
 go_wp2_with fail
 refine af (fun w1 hw => ?_)
 have hz1 : w.heap.size + 1 ≤ w1.heap.size := zA
 have hbn : Below w.heap.size w w1 := zB
 replace HB := bT HB hbn
 clear hbn
 have HXh : Hid (aa w1 (w.heap.size) [.int .i64 h.num, .int .i64 h.size, .string h.root, .int .i64 h.taken, .string h.troot]) := zG5
 obtain ⟨hkh, hxh, hfh⟩ := HXh.out
 clear hw
 refine (HO.out _).mono ?_
 rintro e w2 ⟨rfl, hb⟩
 have hzw2 : w1.heap.size ≤ w2.heap.size := hb.size
 replace HB := bT HB hb
 replace HXh := nB HXh hb
 clear hxh hfh hkh
 obtain ⟨hkh, hxh, hfh⟩ := HXh.out
 clear hb
 have l0 : ∀ v : Later w2, v.v.cell? ⟨w.heap.size, 0, none⟩ = some (.int .i64 h.num) := fun v => (ag v _ _ hkh).trans (hxh 0)
 have l1 : ∀ v : Later w2, v.v.cell? ⟨w.heap.size, 1, none⟩ = some (.int .i64 h.size) := fun v => (ag v _ _ hkh).trans (hxh 1)
 have l2 : ∀ v : Later w2, v.v.cell? ⟨w.heap.size, 2, none⟩ = some (.string h.root) := fun v => (ag v _ _ hkh).trans (hxh 2)
 have l3 : ∀ v : Later w2, v.v.cell? ⟨w.heap.size, 3, none⟩ = some (.int .i64 h.taken) := fun v => (ag v _ _ hkh).trans (hxh 3)
 have l4 : ∀ v : Later w2, v.v.cell? ⟨w.heap.size, 4, none⟩ = some (.string h.troot) := fun v => (ag v _ _ hkh).trans (hxh 4)
 go_wp2_with fail
 refine aA (by kernel_rfl) (by kernel_rfl) ?_
 repeat (go_big_quiet_step ((first | with_reducible exact aC (n1.out _) | with_reducible exact aC (n2.out _) | with_reducible exact aC (n3.out _))))
 refine wpQuiet_nil ?_
 intro w9 h9
 have hb9 := aP h9
 have HB9 := lH (ak HB.out hb9 HB.out.size)
 clear l0 l1 l2 l3 l4 h9 hb9 hxh hfh
 go_wp2
 refine bodyPost_ret (v := .tuple #[.string s4, .bool true]) (by simp [results, Tryz.results101, go_sem]) rfl ?_
 exact ⟨by rw [HM.out, HS4.out, HS3.out, HS2.out, HS1.out], HB9.out⟩
def partedB (s r t u : Bool) : Bool := s && !r || t && !u
def partedM (a b : Hd) : Bool := partedB (a.size == b.size) (a.root.toList == b.root.toList) (a.taken == b.taken) (a.troot.toList == b.troot.toList)
def aheadM (a b : Hd) : Bool := decide (b.num ≤ a.num) || decide (b.size < a.size) || decide (b.taken < a.taken)
def fq (width : Int) (a b : Hd) : Bool := bu width a && bu width b && !aheadM a b && !partedM a b
theorem fu {α : Type} [BEq α] {a b : α} {q : Bool} (h : (a == b) = q) : (a != b) = !q := by rw [bne, h]
set_option maxRecDepth 100000 in
theorem parted_c (a b : Hd) (w : World) : Calls Tryz.prog 187 #[.agg #[.int .i64 a.num, .int .i64 a.size, .string a.root, .int .i64 a.taken, .string a.troot], .agg #[.int .i64 b.num, .int .i64 b.size, .string b.root, .int .i64 b.taken, .string b.troot]] w fun e w' => e = .returned (.bool (partedM a b)) ∧ Below w.heap.size w w' := by
 have HP : Hid (partedM a b = partedB (a.size == b.size) (a.root.toList == b.root.toList) (a.taken == b.taken) (a.troot.toList == b.troot.toList)) := lH rfl
 rcases h1 : (a.size == b.size) with _ | _ <;> rcases h2 : (a.root.toList == b.root.toList) with _ | _ <;> rcases h3 : (a.taken == b.taken) with _ | _ <;> rcases h4 : (a.troot.toList == b.troot.toList) with _ | _
 all_goals
  rw [h1, h2, h3, h4] at HP
  have n1 := fu h1
  have n2 := fu h2
  have n3 := fu h3
  have n4 := fu h4
  generalize partedM a b = pm at *
  go_enter Tryz.func187, Tryz.ntmps187
  go_wp2
  go_ret
  exact ⟨aj (by rw [HP.out]; rfl), ((Below.refl _ _).alloc (Nat.le_refl _) _).alloc (by first | omega | (simp; done) | (simp; omega)) _⟩
set_option maxRecDepth 100000 in
theorem implFollows_c (width : Int) (a b : Hd) (w : World) (hz : a.bulk + b.bulk ≤ 1048576) : Calls Tryz.prog 146 #[.int .i64 width, .agg #[.int .i64 a.num, .int .i64 a.size, .string a.root, .int .i64 a.taken, .string a.troot], .agg #[.int .i64 b.num, .int .i64 b.size, .string b.root, .int .i64 b.taken, .string b.troot]] w fun e w' => e = .returned (.bool (fq width a b)) ∧ Below w.heap.size w w' := by
 have HA := lH (fun W => implHeadOk_c width a W (by omega))
 have HBB := lH (fun W => implHeadOk_c width b W (by omega))
 have HF : Hid (fq width a b = (bu width a && bu width b && !(decide (b.num ≤ a.num) || decide (b.size < a.size) || decide (b.taken < a.taken)) && !partedM a b)) := lH rfl
 clear hz
 generalize fq width a b = fm at *
 generalize bu width a = ka at *
 generalize bu width b = kb at *
 have HB : Hid (Below w.heap.size w w) := Below.refl _ _
 go_enter Tryz.func146, Tryz.ntmps146
 go_wp2_with fail
 refine af (fun w1 hw => ?_)
 have hz1 : w.heap.size + 2 ≤ w1.heap.size := zA
 have hbn : Below w.heap.size w w1 := zB
 replace HB := bT HB hbn
 clear hbn
 have HXa : Hid (aa w1 (w.heap.size) [.int .i64 a.num, .int .i64 a.size, .string a.root, .int .i64 a.taken, .string a.troot]) := zG5
 obtain ⟨hka, hxa, hfa⟩ := HXa.out
 have HXb : Hid (aa w1 (w.heap.size + 1) [.int .i64 b.num, .int .i64 b.size, .string b.root, .int .i64 b.taken, .string b.troot]) := zG5
 obtain ⟨hkb, hxb, hfb⟩ := HXb.out
 clear hw
 refine (HA.out _).mono ?_
 rintro e w2 ⟨rfl, hb⟩
 have hzw2 : w1.heap.size ≤ w2.heap.size := hb.size
 replace HB := bT HB hb
 replace HXa := nB HXa hb
 clear hxa hfa hka
 obtain ⟨hka, hxa, hfa⟩ := HXa.out
 replace HXb := nB HXb hb
 clear hxb hfb hkb
 obtain ⟨hkb, hxb, hfb⟩ := HXb.out
 clear hb
 rcases ka with _ | _
 ·go_wp2
  go_ret
  exact ⟨aj (by rw [HF.out]; rfl), HB.out⟩
 go_wp2_with fail
 refine af (fun w3 hw => ?_)
 have hz3 : w2.heap.size + 0 ≤ w3.heap.size := zA
 have hbn : Below w2.heap.size w2 w3 := zB
 replace HB := bT HB hbn
 replace HXa := nB HXa hbn
 clear hxa hfa hka
 obtain ⟨hka, hxa, hfa⟩ := HXa.out
 replace HXb := nB HXb hbn
 clear hxb hfb hkb
 obtain ⟨hkb, hxb, hfb⟩ := HXb.out
 clear hbn
 clear hw
 refine (HBB.out _).mono ?_
 rintro e w4 ⟨rfl, hb⟩
 have hzw4 : w3.heap.size ≤ w4.heap.size := hb.size
 replace HB := bT HB hb
 replace HXa := nB HXa hb
 clear hxa hfa hka
 obtain ⟨hka, hxa, hfa⟩ := HXa.out
 replace HXb := nB HXb hb
 clear hxb hfb hkb
 obtain ⟨hkb, hxb, hfb⟩ := HXb.out
 clear hb
 rcases kb with _ | _
 ·go_wp2
  go_ret
  exact ⟨aj (by rw [HF.out]; rfl), HB.out⟩
 by_cases d1 : b.num ≤ a.num
 ·go_wp2
  go_ret
  exact ⟨aj (by rw [HF.out]; simp [d1]), HB.out⟩
 by_cases d2 : b.size < a.size
 ·go_wp2
  go_ret
  exact ⟨aj (by rw [HF.out]; simp [d2]), HB.out⟩
 by_cases d3 : b.taken < a.taken
 ·go_wp2
  go_ret
  exact ⟨aj (by rw [HF.out]; simp [d3]), HB.out⟩
 go_wp2_with fail
 refine af (fun w5 hw => ?_)
 have hz5 : w4.heap.size + 0 ≤ w5.heap.size := zA
 have hbn : Below w4.heap.size w4 w5 := zB
 replace HB := bT HB hbn
 replace HXa := nB HXa hbn
 clear hxa hfa hka
 obtain ⟨hka, hxa, hfa⟩ := HXa.out
 replace HXb := nB HXb hbn
 clear hxb hfb hkb
 obtain ⟨hkb, hxb, hfb⟩ := HXb.out
 clear hbn
 clear hw
 refine (parted_c a b _).mono ?_
 rintro e w6 ⟨rfl, hb⟩
 have hzw6 : w5.heap.size ≤ w6.heap.size := hb.size
 replace HB := bT HB hb
 replace HXa := nB HXa hb
 clear hxa hfa hka
 obtain ⟨hka, hxa, hfa⟩ := HXa.out
 replace HXb := nB HXb hb
 clear hxb hfb hkb
 obtain ⟨hkb, hxb, hfb⟩ := HXb.out
 clear hb
 have H1 : Hid (decide (b.num ≤ a.num) = false ∧ decide (b.size < a.size) = false ∧ decide (b.taken < a.taken) = false) := ⟨decide_eq_false (by omega), decide_eq_false (by omega), decide_eq_false (by omega)⟩
 generalize partedM a b = pm at *
 go_wp2
 go_ret
 exact ⟨aj (by rw [HF.out, H1.out.1, H1.out.2.1, H1.out.2.2]; rfl), HB.out⟩
def fV (width : Int) (l : List Hd) (i : Nat) : Bool := match l[i]? with
 | some h => (h.num == (i : Int)) && bu width h && (i == 0 || match l[i - 1]? with | some p => fq width p h | none => false)
 | none => false
def dA (width : Int) (l : List Hd) : Nat → Bool
 | 0 => true
 | k + 1 => dA width l k && fV width l k
def eB (width : Int) (l : List Hd) : Bool := inR width 1 32 && decide (l.length ≤ 400) && dA width l l.length
theorem headsUp_le {width : Int} {l : List Hd} : ∀ {n k : Nat}, k ≤ n → dA width l n = true → dA width l k = true
 | 0, k, hk, h => by
   obtain rfl : k = 0 := by omega
   exact h
 | n + 1, k, hk, h => by
   by_cases e : k = n + 1
   ·subst e; exact h
   rw [dA, Bool.and_eq_true] at h
   exact headsUp_le (by omega) h.1
theorem headsUp_no {width : Int} {l : List Hd} {n k : Nat} (hn : l.length = n) (hk : k < n) (h : fV width l k = false) : dA width l l.length = false := by
 rcases hh : dA width l l.length with _ | _
 ·rfl
 have h1 := headsUp_le (n := l.length) (k := k + 1) (by omega) hh
 rw [dA, h, Bool.and_false] at h1
 cases h1
theorem headAt_0 {width : Int} {l : List Hd} {x : Hd} (hx : l[0]? = some x) : fV width l 0 = ((x.num == ((0 : Nat) : Int)) && bu width x) := by
 rw [fV, hx]; simp
theorem headAt_s {width : Int} {l : List Hd} {x p : Hd} {k q : Nat} (hx : l[k]? = some x) (hp : l[q]? = some p) (hk : k = q + 1) : fV width l k = ((x.num == (k : Int)) && bu width x && fq width p x) := by
 subst hk
 rw [fV, hx]
 simp [hp]
theorem headAt_num {width : Int} {l : List Hd} {x : Hd} {k : Nat} (hx : l[k]? = some x) (h : (x.num == (k : Int)) = false) : fV width l k = false := by
 rw [fV, hx]; simp [h]
theorem headAt_ok {width : Int} {l : List Hd} {x : Hd} {k : Nat} (hx : l[k]? = some x) (h : bu width x = false) : fV width l k = false := by
 rw [fV, hx]; simp [h]
theorem sumBy_two {α : Type} (f : α → Nat) {l : List α} {k q : Nat} {x p : α} (hx : l[k]? = some x) (hp : l[q]? = some p) (hk : k = q + 1) : f p + f x ≤ dW f l := by
 subst hk
 have h1 := sumBy_take f hx
 have h2 := sumBy_take f hp
 have h3 := sumBy_take_le f l (q + 1 + 1)
 omega
theorem hd_cells {w : World} {lo hi : Nat} {A : Option Addr} {l : List Hd} (h : Rd w lo hi A (hds l)) {k : Nat} (hk : k < l.length) : ∃ b off x, A = some ⟨b, off, none⟩ ∧ b < w.heap.size ∧ l[k]? = some x ∧
  w.cell? ⟨b, off + k * 5, none⟩ = some (.int .i64 x.num) ∧ w.cell? ⟨b, off + k * 5 + 1, none⟩ = some (.int .i64 x.size) ∧ w.cell? ⟨b, off + k * 5 + 2, none⟩ = some (.string x.root) ∧ w.cell? ⟨b, off + k * 5 + 3, none⟩ = some (.int .i64 x.taken) ∧ w.cell? ⟨b, off + k * 5 + 4, none⟩ = some (.string x.troot) := by
 obtain ⟨b, off, x, h1, _, _, h4, h5, h6⟩ := Rd.flat (f := Hd.cells) (m := 5) (fun _ => rfl) (by omega) h hk
 exact ⟨b, off, x, h1, h4, h5, h6 0 _ rfl, h6 1 _ rfl, h6 2 _ rfl, h6 3 _ rfl, h6 4 _ rfl⟩
set_option maxRecDepth 100000 in
theorem implHeadsOk_c (width : Int) (A : Option Addr) (c lo hi n : Nat) (l : List Hd) (w : World) (hr : Rd w lo hi A (hds l)) (hn : l.length = n) (hl : n + dW Hd.bulk l ≤ 1048576) :
  Calls Tryz.prog 88 #[.int .i64 width, .slice A n c] w fun e w' => e = .returned (.bool (eB width l)) ∧ Below w.heap.size w w' := by
 have HN := lH hn
 have HL := lH hl
 have HR := lH hr
 have HDEF : Hid (eB width l = (inR width 1 32 && decide (l.length ≤ 400) && dA width l l.length)) := lH rfl
 have hn2 : n ≤ 1048576 := by omega
 clear hn hl hr
 go_enter Tryz.func88, Tryz.ntmps88
 go_wp2_with fail
 refine (isWidth_c width _).mono ?_
 rintro e w1 ⟨rfl, rfl⟩
 rcases hq : inR width 1 32 with _ | _
 ·go_wp2
  go_ret
  exact ⟨aj (by rw [HDEF.out, hq]; rfl), Below.refl _ _⟩
 rw [hq] at HDEF
 clear hq
 by_cases h4 : n ≤ 400
 ·have H4 : Hid (decide (l.length ≤ 400) = true) := lH (by rw [HN.out]; exact decide_eq_true h4)
  go_wp2
  go_loopw [17] (fun i wx => ∃ k : Nat, k ≤ n ∧ i = .int .i64 k ∧ dA width l k = true ∧ Below w.heap.size w wx) (fun i _ => n - (intOf i).toNat)
  case atStart => exact ⟨0, Nat.zero_le _, rfl, rfl, Below.refl _ _⟩
  case round =>
   obtain ⟨k, hk, rfl, hup, hbr⟩ := hrel
   have HUP := lH hup
   clear hup
   by_cases hlt : k < n
   ·obtain ⟨b, off, x, rfl, hb, hx, hc⟩ := hd_cells (HR.out.below hbr) (k := k) (by rw [HN.out]; exact hlt)
    have hc0 := hc.1; have hc1 := hc.2.1; have hc2 := hc.2.2.1; have hc3 := hc.2.2.2.1; have hc4 := hc.2.2.2.2
    have HX := lH hx
    have HBR0 := lH hbr
    have hbk : Hid (x.bulk ≤ 1048576) := lH (by have := sumBy_get Hd.bulk hx; have := HL.out; omega)
    have hI : (k : Int) < n := by omega
    clear hc hx
    go_wp2_with fail
    refine aD (fun w5 hw => ?_)
    have HBR : Hid (Below w.heap.size w w5) := by rw [Hid, hw]; exact HBR0.out.alloc HBR0.out.size _
    have hX : aa w5 wr.heap.size x.cells := by rw [hw]; exact aa.new wr x.cells.toArray _
    have hz5 : wr.heap.size < w5.heap.size := hX.1
    clear hw hc0 hc1 hc2 hc3 hc4
    have g0 : ∀ v : Later w5, v.v.cell? ⟨wr.heap.size, 0, none⟩ = some (.int .i64 x.num) := fun v => (ag v _ _ hz5).trans (hX.cell (o := 0) rfl)
    have g1 : ∀ v : Later w5, v.v.cell? ⟨wr.heap.size, 1, none⟩ = some (.int .i64 x.size) := fun v => (ag v _ _ hz5).trans (hX.cell (o := 1) rfl)
    have g2 : ∀ v : Later w5, v.v.cell? ⟨wr.heap.size, 2, none⟩ = some (.string x.root) := fun v => (ag v _ _ hz5).trans (hX.cell (o := 2) rfl)
    have g3 : ∀ v : Later w5, v.v.cell? ⟨wr.heap.size, 3, none⟩ = some (.int .i64 x.taken) := fun v => (ag v _ _ hz5).trans (hX.cell (o := 3) rfl)
    have g4 : ∀ v : Later w5, v.v.cell? ⟨wr.heap.size, 4, none⟩ = some (.string x.troot) := fun v => (ag v _ _ hz5).trans (hX.cell (o := 4) rfl)
    clear hX
    rcases d1 : (x.num == (k : Int)) with _ | _
    ·have n1 := fu d1
     have HAT := lH (headAt_num (width := width) HX.out d1)
     refine aA (by kernel_rfl) (by kernel_rfl) ?_
     repeat (go_big_quiet_step (fail))
     refine wpQuiet_nil ?_
     intro w8 h8
     have HB8 : Hid (Below w.heap.size w w8) := ak HBR.out (aP h8) HBR.out.size
     clear h8; clear g0 g1 g2 g3 g4; go_wp2
     go_ret
     exact ⟨aj (by rw [HDEF.out, headsUp_no HN.out hlt HAT.out]; simp), HB8.out⟩
    have n1 := fu d1
    have HO := lH (fun W => implHeadOk_c width x W hbk.out)
    rcases q1 : bu width x with _ | _
    ·have HAT := lH (headAt_ok (width := width) HX.out q1)
     rw [q1] at HO
     clear q1
     refine aA (by kernel_rfl) (by kernel_rfl) ?_
     repeat (go_big_quiet_step ((with_reducible exact aC (HO.out _))))
     refine wpQuiet_nil ?_
     intro w8 h8
     have HB8 : Hid (Below w.heap.size w w8) := ak HBR.out (aP h8) HBR.out.size
     clear h8; clear g0 g1 g2 g3 g4; go_wp2
     go_ret
     exact ⟨aj (by rw [HDEF.out, headsUp_no HN.out hlt HAT.out]; simp), HB8.out⟩
    have Q1 := lH q1
    have D1 := lH d1
    rw [q1] at HO
    clear q1
    rcases (show k = 0 ∨ 0 < k by omega) with hk0 | hk0
    ·have HAT : Hid (fV width l k = true) := lH (by subst hk0; rw [headAt_0 HX.out, D1.out, Q1.out]; rfl)
     have e0 : decide ((0 : Int) < (k : Int)) = false := decide_eq_false (by omega)
     have n0 : (x.num != 0) = false := by subst hk0; exact n1
     refine aA (by kernel_rfl) (by kernel_rfl) ?_
     repeat (go_big_quiet_step ((with_reducible exact aC (HO.out _))))
     refine wpQuiet_nil ?_
     intro w8 h8
     have HB8 : Hid (Below w.heap.size w w8) := ak HBR.out (aP h8) HBR.out.size
     clear h8; clear g0 g1 g2 g3 g4 e0 n0; go_wp2
     go_round
     case rel => exact ⟨k + 1, by omega, by go_num, by rw [dA, HUP.out, HAT.out]; rfl, HB8.out⟩
     case measure => simp [intOf]; omega
    obtain ⟨q, hkq⟩ : ∃ q, k = q + 1 := ⟨k - 1, by omega⟩
    obtain ⟨b2, off2, p, e2, hb2, hp, hd⟩ := hd_cells (HR.out.below HBR.out) (k := q) (by rw [HN.out]; omega)
    cases e2
    have HF := lH (fun W => implFollows_c width p x W (by have := sumBy_two Hd.bulk HX.out hp hkq; have := HL.out; omega))
    have HS := lH (headAt_s (width := width) HX.out hp hkq)
    have hb5 : b < w5.heap.size := by omega
    have f0 : ∀ v : Later w5, v.v.cell? ⟨b, off + q * 5, none⟩ = some (.int .i64 p.num) := fun v => (ag v _ _ hb5).trans hd.1
    have f1 : ∀ v : Later w5, v.v.cell? ⟨b, off + q * 5 + 1, none⟩ = some (.int .i64 p.size) := fun v => (ag v _ _ hb5).trans hd.2.1
    have f2 : ∀ v : Later w5, v.v.cell? ⟨b, off + q * 5 + 2, none⟩ = some (.string p.root) := fun v => (ag v _ _ hb5).trans hd.2.2.1
    have f3 : ∀ v : Later w5, v.v.cell? ⟨b, off + q * 5 + 3, none⟩ = some (.int .i64 p.taken) := fun v => (ag v _ _ hb5).trans hd.2.2.2.1
    have f4 : ∀ v : Later w5, v.v.cell? ⟨b, off + q * 5 + 4, none⟩ = some (.string p.troot) := fun v => (ag v _ _ hb5).trans hd.2.2.2.2
    have e0 : decide ((0 : Int) < (k : Int)) = true := decide_eq_true (by omega)
    have E1 : IntKind.i64.wrap ((k : Int) - 1) = q := by rw [IntKind.wrap_i64]; omega
    have E2 : (k : Int) - 1 = q := by omega
    have E3 : (0 : Int) ≤ (q : Int) := by omega
    have E4 : (q : Int) < (n : Int) := by omega
    clear hd hp hkq
    rcases q2 : fq width p x with _ | _
    ·have HAT : Hid (fV width l k = false) := lH (by rw [HS.out, q2, Bool.and_false])
     rw [q2] at HF
     clear q2
     refine aA (by kernel_rfl) (by kernel_rfl) ?_
     repeat (go_big_quiet_step ((first | with_reducible exact aC (HO.out _) | with_reducible exact aC (HF.out _))))
     refine wpQuiet_nil ?_
     intro w8 h8
     have HB8 : Hid (Below w.heap.size w w8) := ak HBR.out (aP h8) HBR.out.size
     clear h8; clear g0 g1 g2 g3 g4 e0 f0 f1 f2 f3 f4 E1 E2 E3 E4; go_wp2
     go_ret
     exact ⟨aj (by rw [HDEF.out, headsUp_no HN.out hlt HAT.out]; simp), HB8.out⟩
    have HAT : Hid (fV width l k = true) := lH (by rw [HS.out, q2, D1.out, Q1.out]; rfl)
    rw [q2] at HF
    clear q2
    refine aA (by kernel_rfl) (by kernel_rfl) ?_
    repeat (go_big_quiet_step ((first | with_reducible exact aC (HO.out _) | with_reducible exact aC (HF.out _))))
    refine wpQuiet_nil ?_
    intro w8 h8
    have HB8 : Hid (Below w.heap.size w w8) := ak HBR.out (aP h8) HBR.out.size
    clear h8; clear g0 g1 g2 g3 g4 e0 f0 f1 f2 f3 f4 E1 E2 E3 E4; go_wp2
    go_round
    case rel => exact ⟨k + 1, by omega, by go_num, by rw [dA, HUP.out, HAT.out]; rfl, HB8.out⟩
    case measure => simp [intOf]; omega
   obtain rfl : k = n := by omega
   have HBR := lH hbr
   go_wp2
   go_ret
   exact ⟨aj (by rw [HDEF.out, H4.out, HN.out, HUP.out]; rfl), HBR.out⟩
 have H4 : Hid (decide (l.length ≤ 400) = false) := lH (by rw [HN.out]; exact decide_eq_false h4)
 go_wp2
 go_ret
 exact ⟨aj (by rw [HDEF.out, H4.out]; rfl), Below.refl _ _⟩
end
end Go.Proofs.YtoccjgcokffkbaaGreat
