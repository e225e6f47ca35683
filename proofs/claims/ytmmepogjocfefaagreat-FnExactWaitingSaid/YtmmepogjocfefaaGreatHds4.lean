/- Heads: rootOk, HeadOk, HeadNew. Texts and hashes of heads. Two heads: parted, Follows, ForkOf. HeadsOk. -/
import Derived.Test.YtmmepogjocfefaaGreatHash3
import Derived.Test.YtmmepogjocfefaaGreatWk2
namespace Go.Proofs.YtmmepogjocfefaaGreat
set_option linter.unusedVariables false
set_option linter.unusedSimpArgs false
open Go.RowKit

def rootOkM (width size : Int) (root : ByteArray) : Bool := inR size 0 512 && decide ((root.size : Int) = width) && (decide (0 < size) || decide (root = emptyT width))
def headOk (width : Int) (h : Hd) : Bool := inR width 1 32 && inR h.num 0 399 && rootOkM width h.size h.root && rootOkM width h.taken h.troot

set_option maxRecDepth 100000 in
set_option maxHeartbeats 400000 in
theorem rootOk_c (width size : Int) (root : ByteArray) (w : World) (hr : root.size ≤ 1048576) : Calls Tryz.prog 190 #[.int .i64 width, .int .i64 size, .string root] w fun e w' => e = .returned (.bool (rootOkM width size root)) ∧ Below w.heap.size w w' := by
 have hr2 : (root.size : Int) ≤ 1048576 := by omega
 go_enter Tryz.func190, Tryz.ntmps190
 go_wp2_with fail
 refine (isSize_c size _).mono ?_
 rintro e w1 ⟨rfl, rfl⟩
 rcases hq : inR size 0 512 with _ | _
 ·go_wp2
  go_ret
  exact ⟨ret_bool (by rw [rootOkM, hq]; rfl), Below.refl _ _⟩
 ·have HQ := Lib.hid hq
  clear hq
  by_cases hl : (root.size : Int) = width
  ·subst hl
   by_cases hp : 0 < size
   ·go_wp2
    go_ret
    exact ⟨ret_bool (by rw [rootOkM, HQ.out]; simp [hp]), Below.refl _ _⟩
   ·go_wp2_with fail
    refine (emptyRoot_c root.size _).mono ?_
    rintro e w1 ⟨rfl, hb⟩
    have HB := Lib.hid hb
    clear hb
    have hbq := beq_iff (a := root) (b := emptyT root.size)
    have HBQ := Lib.hid hbq
    clear hbq
    go_wp2
    go_ret
    exact ⟨ret_bool (by rw [rootOkM, HQ.out, HBQ.out]; simp [hp]), HB.out⟩
  ·go_wp2
   go_ret
   exact ⟨ret_bool (by rw [rootOkM, HQ.out]; simp [hl]), Below.refl _ _⟩
set_option maxRecDepth 100000 in
set_option maxHeartbeats 400000 in
theorem implHeadOk_c (width : Int) (h : Hd) (w : World) (hz : h.bulk ≤ 1048576) : Calls Tryz.prog 160 #[.int .i64 width, .agg #[.int .i64 h.num, .int .i64 h.size, .string h.root, .int .i64 h.taken, .string h.troot]] w fun e w' => e = .returned (.bool (headOk width h)) ∧ Below w.heap.size w w' := by
 have hr1 : h.root.size ≤ 1048576 := by unfold Hd.bulk at hz; omega
 have hr2 : h.troot.size ≤ 1048576 := by unfold Hd.bulk at hz; omega
 clear hz
 have HB : Hid (Below w.heap.size w w) := Below.refl _ _
 go_enter Tryz.func160, Tryz.ntmps160
 go_wp2_with fail
 refine calls_named (fun w1 hw => ?_)
 have hz1 : w.heap.size + 1 ≤ w1.heap.size := by rw [hw]; first | omega | (simp [World.setCell]; done) | (simp [World.setCell]; omega)
 have hzz1 : w.heap.size ≤ w1.heap.size := by omega
 have hbn : Below w.heap.size w w1 := by rw [hw]; exact (by ((repeat (first | ((with_reducible refine Below.alloc ?_ ?_ _); rotate_left 1; (focus (first | omega | (simp; done) | (simp; omega)))) | (with_reducible refine Below.drew ?_) | ((with_reducible refine Below.setCell ?_ ?_ _); rotate_left 1; (focus (first | omega | (simp; done) | (simp; omega)))))); exact Below.refl _ _))
 replace HB := Lib.hid (below_then HB.out hbn HB.out.size)
 clear hbn
 have HXh : Hid (NewBox w1 (w.heap.size) [.int .i64 h.num, .int .i64 h.size, .string h.root, .int .i64 h.taken, .string h.troot]) := by rw [Hid, hw]; exact ⟨by first | omega | (simp [World.setCell]; done) | (simp [World.setCell]; omega), fun o => by rcases o with _ | _ | _ | _ | _ | o <;> go_simp, fun o => by go_simp⟩
 have hxh := HXh.out.2.1
 have hfh := HXh.out.2.2
 have hkh := HXh.out.1
 clear hw
 refine (isWidth_c width _).mono ?_
 rintro e w2_ ⟨rfl, rfl⟩
 rcases hq1 : inR width 1 32 with _ | _
 ·go_wp2
  go_ret
  exact ⟨ret_bool (by rw [headOk, hq1]; rfl), HB.out⟩
 ·have HQ1 := Lib.hid hq1
  clear hq1
  go_wp2_with fail
  refine (inRange_c h.num 0 399 _).mono ?_
  rintro e w3_ ⟨rfl, rfl⟩
  rcases hq2 : inR h.num 0 399 with _ | _
  ·go_wp2
   go_ret
   exact ⟨ret_bool (by rw [headOk, HQ1.out, hq2]; rfl), HB.out⟩
  ·have HQ2 := Lib.hid hq2
   clear hq2
   go_wp2_with fail
   refine calls_named (fun w4 hw => ?_)
   have hz4 : w1.heap.size + 0 ≤ w4.heap.size := by rw [hw]; first | omega | (simp [World.setCell]; done) | (simp [World.setCell]; omega)
   have hzz4 : w.heap.size ≤ w4.heap.size := by omega
   have hbn : Below w1.heap.size w1 w4 := by rw [hw]; exact (by ((repeat (first | ((with_reducible refine Below.alloc ?_ ?_ _); rotate_left 1; (focus (first | omega | (simp; done) | (simp; omega)))) | (with_reducible refine Below.drew ?_) | ((with_reducible refine Below.setCell ?_ ?_ _); rotate_left 1; (focus (first | omega | (simp; done) | (simp; omega)))))); exact Below.refl _ _))
   replace HB := Lib.hid (below_then HB.out hbn HB.out.size)
   replace HXh := Lib.hid (HXh.out.below hbn)
   clear hxh hfh hkh
   have hxh := HXh.out.2.1
   have hfh := HXh.out.2.2
   have hkh := HXh.out.1
   clear hbn
   clear hw
   refine (rootOk_c width h.size h.root _ hr1).mono ?_
   rintro e w5 ⟨rfl, hb⟩
   have hzw5 : w4.heap.size ≤ w5.heap.size := hb.size
   have hzzw5 : w.heap.size ≤ w5.heap.size := by omega
   replace HB := Lib.hid (below_then HB.out hb HB.out.size)
   replace HXh := Lib.hid (HXh.out.below hb)
   clear hxh hfh hkh
   have hxh := HXh.out.2.1
   have hfh := HXh.out.2.2
   have hkh := HXh.out.1
   clear hb
   rcases hq3 : rootOkM width h.size h.root with _ | _
   ·go_wp2
    go_ret
    exact ⟨ret_bool (by rw [headOk, HQ1.out, HQ2.out, hq3]; rfl), HB.out⟩
   ·have HQ3 := Lib.hid hq3
    clear hq3
    go_wp2_with fail
    refine calls_named (fun w6 hw => ?_)
    have hz6 : w5.heap.size + 0 ≤ w6.heap.size := by rw [hw]; first | omega | (simp [World.setCell]; done) | (simp [World.setCell]; omega)
    have hzz6 : w.heap.size ≤ w6.heap.size := by omega
    have hbn : Below w5.heap.size w5 w6 := by rw [hw]; exact (by ((repeat (first | ((with_reducible refine Below.alloc ?_ ?_ _); rotate_left 1; (focus (first | omega | (simp; done) | (simp; omega)))) | (with_reducible refine Below.drew ?_) | ((with_reducible refine Below.setCell ?_ ?_ _); rotate_left 1; (focus (first | omega | (simp; done) | (simp; omega)))))); exact Below.refl _ _))
    replace HB := Lib.hid (below_then HB.out hbn HB.out.size)
    replace HXh := Lib.hid (HXh.out.below hbn)
    clear hxh hfh hkh
    have hxh := HXh.out.2.1
    have hfh := HXh.out.2.2
    have hkh := HXh.out.1
    clear hbn
    clear hw
    refine (rootOk_c width h.taken h.troot _ hr2).mono ?_
    rintro e w7 ⟨rfl, hb⟩
    have hzw7 : w6.heap.size ≤ w7.heap.size := hb.size
    have hzzw7 : w.heap.size ≤ w7.heap.size := by omega
    replace HB := Lib.hid (below_then HB.out hb HB.out.size)
    replace HXh := Lib.hid (HXh.out.below hb)
    clear hxh hfh hkh
    have hxh := HXh.out.2.1
    have hfh := HXh.out.2.2
    have hkh := HXh.out.1
    clear hb
    generalize hq4 : rootOkM width h.taken h.troot = q4 at *
    have HQ4 := Lib.hid hq4
    clear hq4
    go_wp2
    go_ret
    exact ⟨ret_bool (by rw [headOk, HQ1.out, HQ2.out, HQ3.out, HQ4.out]; rfl), HB.out⟩
set_option maxRecDepth 100000 in
set_option maxHeartbeats 400000 in
theorem specHeadOk_c (width : Int) (h : Hd) (w : World) (hz : h.bulk ≤ 1048576) : Calls Tryz.prog 108 #[.int .i64 width, .agg #[.int .i64 h.num, .int .i64 h.size, .string h.root, .int .i64 h.taken, .string h.troot]] w fun e w' => e = .returned (.bool (headOk width h)) ∧ Below w.heap.size w w' := by
 have hr1 : h.root.size ≤ 1048576 := by unfold Hd.bulk at hz; omega
 have hr2 : h.troot.size ≤ 1048576 := by unfold Hd.bulk at hz; omega
 clear hz
 have hbq := beq_iff (a := h.root) (b := emptyT width)
 have HBQ := Lib.hid hbq
 have hbt := beq_iff (a := h.troot) (b := emptyT width)
 have HBT := Lib.hid hbt
 clear hbq hbt
 have HE := Lib.hid (fun W => specEmptyRoot_c width W)
 have HK : Hid (headOk width h = (inR width 1 32 && inR h.num 0 399 && (inR h.size 0 512 && decide ((h.root.size : Int) = width) && (decide (0 < h.size) || decide (h.root = emptyT width))) && (inR h.taken 0 512 && decide ((h.troot.size : Int) = width) && (decide (0 < h.taken) || decide (h.troot = emptyT width))))) := Lib.hid rfl
 generalize headOk width h = hk at *
 generalize emptyT width = em at *
 generalize inR width 1 32 = q1 at *
 have HB : Hid (Below w.heap.size w w) := Below.refl _ _
 go_enter Tryz.func108, Tryz.ntmps108
 go_wp2_with fail
 refine calls_named (fun w1 hw => ?_)
 have hz1 : w.heap.size + 1 ≤ w1.heap.size := by rw [hw]; first | omega | (simp [World.setCell]; done) | (simp [World.setCell]; omega)
 have hzz1 : w.heap.size ≤ w1.heap.size := by omega
 have hbn : Below w.heap.size w w1 := by rw [hw]; exact (by ((repeat (first | ((with_reducible refine Below.alloc ?_ ?_ _); rotate_left 1; (focus (first | omega | (simp; done) | (simp; omega)))) | (with_reducible refine Below.drew ?_) | ((with_reducible refine Below.setCell ?_ ?_ _); rotate_left 1; (focus (first | omega | (simp; done) | (simp; omega)))))); exact Below.refl _ _))
 replace HB := Lib.hid (below_then HB.out hbn HB.out.size)
 clear hbn
 have HXh : Hid (NewBox w1 (w.heap.size) [.int .i64 h.num, .int .i64 h.size, .string h.root, .int .i64 h.taken, .string h.troot]) := by rw [Hid, hw]; exact ⟨by first | omega | (simp [World.setCell]; done) | (simp [World.setCell]; omega), fun o => by rcases o with _ | _ | _ | _ | _ | o <;> go_simp, fun o => by go_simp⟩
 have hxh := HXh.out.2.1
 have hfh := HXh.out.2.2
 have hkh := HXh.out.1
 clear hw
 refine (HE.out _).mono ?_
 rintro e w2 ⟨rfl, hb⟩
 have hzw2 : w1.heap.size ≤ w2.heap.size := hb.size
 have hzzw2 : w.heap.size ≤ w2.heap.size := by omega
 replace HB := Lib.hid (below_then HB.out hb HB.out.size)
 replace HXh := Lib.hid (HXh.out.below hb)
 clear hxh hfh hkh
 have hxh := HXh.out.2.1
 have hfh := HXh.out.2.2
 have hkh := HXh.out.1
 clear hb
 rcases q1 with _ | _
 ·go_wp2
  go_ret
  exact ⟨ret_bool (by rw [HK.out]; rfl), HB.out⟩
 ·go_wp2_with fail
  refine (l01In_c h.num 0 399 _).mono ?_
  rintro e w3_ ⟨rfl, rfl⟩
  generalize inR h.num 0 399 = q2 at *
  rcases q2 with _ | _
  ·go_wp2
   go_ret
   exact ⟨ret_bool (by rw [HK.out]; rfl), HB.out⟩
  ·go_wp2_with fail
   refine (l04Size_c h.size _).mono ?_
   rintro e w4_ ⟨rfl, rfl⟩
   generalize inR h.size 0 512 = q3 at *
   rcases q3 with _ | _
   ·go_wp2
    go_ret
    exact ⟨ret_bool (by rw [HK.out]; rfl), HB.out⟩
   ·go_wp2_with fail
    refine (l04Size_c h.taken _).mono ?_
    rintro e w5_ ⟨rfl, rfl⟩
    generalize inR h.taken 0 512 = q4 at *
    rcases q4 with _ | _
    ·go_wp2
     go_ret
     exact ⟨ret_bool (by rw [HK.out]; simp), HB.out⟩
    ·by_cases hl : (h.root.size : Int) = width
     ·by_cases hl2 : (h.troot.size : Int) = width
      ·have HL := Lib.hid hl
       have hd1 : ((h.root.size : Int) != width) = false := by simp [hl]
       have hd2 : ((h.troot.size : Int) != width) = false := by simp [hl2]
       have HL2 := Lib.hid hl2
       clear hl hl2
       rcases Decidable.em (0 < h.size) with hp1 | hp1 <;> have HP1 := Lib.hid hp1
       ·rcases Decidable.em (0 < h.taken) with hp2 | hp2 <;> have HP2 := Lib.hid hp2
        ·go_wp2
         go_ret
         exact ⟨ret_bool (by rw [HK.out]; simp [HL.out, HL2.out, HP1.out, HP2.out]), HB.out⟩
        ·go_wp2
         go_ret
         exact ⟨ret_bool (by rw [HK.out, HBT.out]; simp [HL.out, HL2.out, HP1.out, HP2.out]), HB.out⟩
       ·rcases Decidable.em (0 < h.taken) with hp2 | hp2 <;> have HP2 := Lib.hid hp2
        ·rcases hc : (h.root.toList == em.toList) with _ | _
         all_goals
          have HC := Lib.hid (HBQ.out.symm.trans hc)
          go_wp2
          go_ret
          exact ⟨ret_bool (by rw [HK.out, HC.out]; simp [HL.out, HL2.out, HP1.out, HP2.out]), HB.out⟩
        ·rcases hc : (h.root.toList == em.toList) with _ | _
         all_goals
          have HC := Lib.hid (HBQ.out.symm.trans hc)
          go_wp2
          go_ret
          exact ⟨ret_bool (by have n1 : ¬ 0 < h.size := by have := HP1.out; omega
                              have n2 : ¬ 0 < h.taken := by have := HP2.out; omega
                              rw [HK.out, HC.out]; first | (rw [HBT.out]; simp [HL.out, HL2.out, n1, n2]) | simp [HL.out, HL2.out, n1, n2]), HB.out⟩
      ·have HL := Lib.hid hl
       have hd1 : ((h.root.size : Int) != width) = false := by simp [hl]
       have hd2 : ((h.troot.size : Int) != width) = true := by simp [hl2]
       clear hl
       go_wp2
       go_ret
       exact ⟨ret_bool (by rw [HK.out]; simp [hl2]), HB.out⟩
     ·have hd1 : ((h.root.size : Int) != width) = true := by simp [hl]
      go_wp2
      go_ret
      exact ⟨ret_bool (by rw [HK.out]; simp [hl]), HB.out⟩
def headNew (width : Int) : Hd := ⟨0, 0, emptyT width, 0, emptyT width⟩
set_option maxRecDepth 100000 in
set_option maxHeartbeats 400000 in
theorem implHeadNew_c (width : Int) (w : World) : Calls Tryz.prog 192 #[.int .i64 width] w fun e w' => e = .returned (.tuple #[.agg #[.int .i64 0, .int .i64 0, .string (emptyT width), .int .i64 0, .string (emptyT width)], .bool (inR width 1 32)]) ∧ Below w.heap.size w w' := by
 have HN := Lib.hid (fun h => emptyT_no (width := width) h)
 have HE := Lib.hid (fun W => emptyRoot_c width W)
 have HW := Lib.hid (fun W => isWidth_c width W)
 generalize emptyT width = em at *
 generalize inR width 1 32 = q1 at *
 have HB : Hid (Below w.heap.size w w) := Below.refl _ _
 go_enter Tryz.func192, Tryz.ntmps192
 go_wp2_with fail
 refine calls_named (fun w1 hw => ?_)
 have hz1 : w.heap.size + 1 ≤ w1.heap.size := by rw [hw]; first | omega | (simp [World.setCell]; done) | (simp [World.setCell]; omega)
 have hzz1 : w.heap.size ≤ w1.heap.size := by omega
 have hbn : Below w.heap.size w w1 := by rw [hw]; exact (by ((repeat (first | ((with_reducible refine Below.alloc ?_ ?_ _); rotate_left 1; (focus (first | omega | (simp; done) | (simp; omega)))) | (with_reducible refine Below.drew ?_) | ((with_reducible refine Below.setCell ?_ ?_ _); rotate_left 1; (focus (first | omega | (simp; done) | (simp; omega)))))); exact Below.refl _ _))
 replace HB := Lib.hid (below_then HB.out hbn HB.out.size)
 clear hbn
 have HXr : Hid (NewBox w1 (w.heap.size) [.int .i64 0, .int .i64 0, .string ⟨#[]⟩, .int .i64 0, .string ⟨#[]⟩]) := by rw [Hid, hw]; exact ⟨by first | omega | (simp [World.setCell]; done) | (simp [World.setCell]; omega), fun o => by rcases o with _ | _ | _ | _ | _ | o <;> go_simp, fun o => by go_simp⟩
 have hxr := HXr.out.2.1
 have hfr := HXr.out.2.2
 have hkr := HXr.out.1
 clear hw
 refine (HW.out _).mono ?_
 rintro e w2_ ⟨rfl, rfl⟩
 rcases q1 with _ | _
 ·obtain rfl := HN.out rfl
  go_wp2
  refine bodyPost_named (fun w3 hw => ?_)
  have hz3 : w1.heap.size + 0 ≤ w3.heap.size := by rw [hw]; first | omega | (simp [World.setCell]; done) | (simp [World.setCell]; omega)
  have hzz3 : w.heap.size ≤ w3.heap.size := by omega
  replace HB : Hid (Below w.heap.size w w3) := by rw [Hid, hw]; exact (by ((repeat (first | ((with_reducible refine Below.alloc ?_ ?_ _); rotate_left 1; (focus (first | omega | (simp; done) | (simp; omega)))) | (with_reducible refine Below.drew ?_) | ((with_reducible refine Below.setCell ?_ ?_ _); rotate_left 1; (focus (first | omega | (simp; done) | (simp; omega)))))); exact HB.out))
  replace HXr : Hid (NewBox w3 (w.heap.size) [.int .i64 0, .int .i64 0, .string ⟨#[]⟩, .int .i64 0, .string ⟨#[]⟩]) := by rw [Hid, hw]; apply NewBox.cast; (focus ((repeat (first | (with_reducible apply NewBox.alloc) | (with_reducible apply NewBox.drew) | (with_reducible apply NewBox.set1) | ((with_reducible apply NewBox.far); (focus (first | omega | (simp; done) | (simp; omega)))))); exact HXr.out)); rfl
  clear hxr hfr hkr
  have hxr := HXr.out.2.1
  have hfr := HXr.out.2.2
  have hkr := HXr.out.1
  clear hw
  refine bodyPost_ret (v := .tuple #[.agg #[.int .i64 0, .int .i64 0, .string ⟨#[]⟩, .int .i64 0, .string ⟨#[]⟩], .bool false]) (by simp [results, Tryz.results192, go_sem, hxr]) rfl ?_
  exact ⟨rfl, HB.out⟩
 ·go_wp2_with fail
  refine calls_named (fun w3 hw => ?_)
  have hz3 : w1.heap.size + 0 ≤ w3.heap.size := by rw [hw]; first | omega | (simp [World.setCell]; done) | (simp [World.setCell]; omega)
  have hzz3 : w.heap.size ≤ w3.heap.size := by omega
  have hbn : Below w1.heap.size w1 w3 := by rw [hw]; exact (by ((repeat (first | ((with_reducible refine Below.alloc ?_ ?_ _); rotate_left 1; (focus (first | omega | (simp; done) | (simp; omega)))) | (with_reducible refine Below.drew ?_) | ((with_reducible refine Below.setCell ?_ ?_ _); rotate_left 1; (focus (first | omega | (simp; done) | (simp; omega)))))); exact Below.refl _ _))
  replace HB := Lib.hid (below_then HB.out hbn HB.out.size)
  replace HXr := Lib.hid (HXr.out.below hbn)
  clear hxr hfr hkr
  have hxr := HXr.out.2.1
  have hfr := HXr.out.2.2
  have hkr := HXr.out.1
  clear hbn
  clear hw
  refine (HE.out _).mono ?_
  rintro e w4 ⟨rfl, hb⟩
  have hzw4 : w3.heap.size ≤ w4.heap.size := hb.size
  have hzzw4 : w.heap.size ≤ w4.heap.size := by omega
  replace HB := Lib.hid (below_then HB.out hb HB.out.size)
  replace HXr := Lib.hid (HXr.out.below hb)
  clear hxr hfr hkr
  have hxr := HXr.out.2.1
  have hfr := HXr.out.2.2
  have hkr := HXr.out.1
  clear hb
  go_wp2
  refine bodyPost_named (fun w5 hw => ?_)
  have hz5 : w4.heap.size + 0 ≤ w5.heap.size := by rw [hw]; first | omega | (simp [World.setCell]; done) | (simp [World.setCell]; omega)
  have hzz5 : w.heap.size ≤ w5.heap.size := by omega
  replace HB : Hid (Below w.heap.size w w5) := by rw [Hid, hw]; exact (by ((repeat (first | ((with_reducible refine Below.alloc ?_ ?_ _); rotate_left 1; (focus (first | omega | (simp; done) | (simp; omega)))) | (with_reducible refine Below.drew ?_) | ((with_reducible refine Below.setCell ?_ ?_ _); rotate_left 1; (focus (first | omega | (simp; done) | (simp; omega)))))); exact HB.out))
  replace HXr : Hid (NewBox w5 (w.heap.size) [.int .i64 0, .int .i64 0, .string em, .int .i64 0, .string em]) := by rw [Hid, hw]; apply NewBox.cast; (focus ((repeat (first | (with_reducible apply NewBox.alloc) | (with_reducible apply NewBox.drew) | (with_reducible apply NewBox.set1) | ((with_reducible apply NewBox.far); (focus (first | omega | (simp; done) | (simp; omega)))))); exact HXr.out)); rfl
  clear hxr hfr hkr
  have hxr := HXr.out.2.1
  have hfr := HXr.out.2.2
  have hkr := HXr.out.1
  clear hw
  refine bodyPost_ret (v := .tuple #[.agg #[.int .i64 0, .int .i64 0, .string em, .int .i64 0, .string em], .bool true]) (by simp [results, Tryz.results192, go_sem, hxr]) rfl ?_
  exact ⟨rfl, HB.out⟩
set_option maxRecDepth 100000 in
set_option maxHeartbeats 400000 in
theorem specHeadNew_c (width : Int) (w : World) : Calls Tryz.prog 61 #[.int .i64 width] w fun e w' => e = .returned (.tuple #[.agg #[.int .i64 0, .int .i64 0, .string (emptyT width), .int .i64 0, .string (emptyT width)], .bool (inR width 1 32)]) ∧ Below w.heap.size w w' := by
 have HN := Lib.hid (fun h => emptyT_no (width := width) h)
 have HE := Lib.hid (fun W => specEmptyRoot_c width W)
 generalize emptyT width = em at *
 generalize inR width 1 32 = q1 at *
 have HB : Hid (Below w.heap.size w w) := Below.refl _ _
 go_enter Tryz.func61, Tryz.ntmps61
 go_wp2_with fail
 refine calls_named (fun w1 hw => ?_)
 have hz1 : w.heap.size + 1 ≤ w1.heap.size := by rw [hw]; first | omega | (simp [World.setCell]; done) | (simp [World.setCell]; omega)
 have hzz1 : w.heap.size ≤ w1.heap.size := by omega
 have hbn : Below w.heap.size w w1 := by rw [hw]; exact (by ((repeat (first | ((with_reducible refine Below.alloc ?_ ?_ _); rotate_left 1; (focus (first | omega | (simp; done) | (simp; omega)))) | (with_reducible refine Below.drew ?_) | ((with_reducible refine Below.setCell ?_ ?_ _); rotate_left 1; (focus (first | omega | (simp; done) | (simp; omega)))))); exact Below.refl _ _))
 replace HB := Lib.hid (below_then HB.out hbn HB.out.size)
 clear hbn
 have HXr : Hid (NewBox w1 (w.heap.size) [.int .i64 0, .int .i64 0, .string ⟨#[]⟩, .int .i64 0, .string ⟨#[]⟩]) := by rw [Hid, hw]; exact ⟨by first | omega | (simp [World.setCell]; done) | (simp [World.setCell]; omega), fun o => by rcases o with _ | _ | _ | _ | _ | o <;> go_simp, fun o => by go_simp⟩
 have hxr := HXr.out.2.1
 have hfr := HXr.out.2.2
 have hkr := HXr.out.1
 clear hw
 refine (HE.out _).mono ?_
 rintro e w2 ⟨rfl, hb⟩
 have hzw2 : w1.heap.size ≤ w2.heap.size := hb.size
 have hzzw2 : w.heap.size ≤ w2.heap.size := by omega
 replace HB := Lib.hid (below_then HB.out hb HB.out.size)
 replace HXr := Lib.hid (HXr.out.below hb)
 clear hxr hfr hkr
 have hxr := HXr.out.2.1
 have hfr := HXr.out.2.2
 have hkr := HXr.out.1
 clear hb
 rcases q1 with _ | _
 ·obtain rfl := HN.out rfl
  go_wp2
  refine bodyPost_named (fun w3 hw => ?_)
  have hz3 : w2.heap.size + 0 ≤ w3.heap.size := by rw [hw]; first | omega | (simp [World.setCell]; done) | (simp [World.setCell]; omega)
  have hzz3 : w.heap.size ≤ w3.heap.size := by omega
  replace HB : Hid (Below w.heap.size w w3) := by rw [Hid, hw]; exact (by ((repeat (first | ((with_reducible refine Below.alloc ?_ ?_ _); rotate_left 1; (focus (first | omega | (simp; done) | (simp; omega)))) | (with_reducible refine Below.drew ?_) | ((with_reducible refine Below.setCell ?_ ?_ _); rotate_left 1; (focus (first | omega | (simp; done) | (simp; omega)))))); exact HB.out))
  replace HXr : Hid (NewBox w3 (w.heap.size) [.int .i64 0, .int .i64 0, .string ⟨#[]⟩, .int .i64 0, .string ⟨#[]⟩]) := by rw [Hid, hw]; apply NewBox.cast; (focus ((repeat (first | (with_reducible apply NewBox.alloc) | (with_reducible apply NewBox.drew) | (with_reducible apply NewBox.set1) | ((with_reducible apply NewBox.far); (focus (first | omega | (simp; done) | (simp; omega)))))); exact HXr.out)); rfl
  clear hxr hfr hkr
  have hxr := HXr.out.2.1
  have hfr := HXr.out.2.2
  have hkr := HXr.out.1
  clear hw
  refine bodyPost_ret (v := .tuple #[.agg #[.int .i64 0, .int .i64 0, .string ⟨#[]⟩, .int .i64 0, .string ⟨#[]⟩], .bool false]) (by simp [results, Tryz.results61, go_sem, hxr]) rfl ?_
  exact ⟨rfl, HB.out⟩
 ·skip
  go_wp2
  refine bodyPost_named (fun w3 hw => ?_)
  have hz3 : w2.heap.size + 0 ≤ w3.heap.size := by rw [hw]; first | omega | (simp [World.setCell]; done) | (simp [World.setCell]; omega)
  have hzz3 : w.heap.size ≤ w3.heap.size := by omega
  replace HB : Hid (Below w.heap.size w w3) := by rw [Hid, hw]; exact (by ((repeat (first | ((with_reducible refine Below.alloc ?_ ?_ _); rotate_left 1; (focus (first | omega | (simp; done) | (simp; omega)))) | (with_reducible refine Below.drew ?_) | ((with_reducible refine Below.setCell ?_ ?_ _); rotate_left 1; (focus (first | omega | (simp; done) | (simp; omega)))))); exact HB.out))
  replace HXr : Hid (NewBox w3 (w.heap.size) [.int .i64 0, .int .i64 0, .string em, .int .i64 0, .string em]) := by rw [Hid, hw]; apply NewBox.cast; (focus ((repeat (first | (with_reducible apply NewBox.alloc) | (with_reducible apply NewBox.drew) | (with_reducible apply NewBox.set1) | ((with_reducible apply NewBox.far); (focus (first | omega | (simp; done) | (simp; omega)))))); exact HXr.out)); rfl
  clear hxr hfr hkr
  have hxr := HXr.out.2.1
  have hfr := HXr.out.2.2
  have hkr := HXr.out.1
  clear hw
  refine bodyPost_ret (v := .tuple #[.agg #[.int .i64 0, .int .i64 0, .string em, .int .i64 0, .string em], .bool true]) (by simp [results, Tryz.results61, go_sem, hxr]) rfl ?_
  exact ⟨rfl, HB.out⟩
end Go.Proofs.YtmmepogjocfefaaGreat

namespace Go.Proofs.YtmmepogjocfefaaGreat
set_option linter.unusedVariables false
set_option linter.unusedSimpArgs false
open Go.RowKit

theorem rootOkM_all {width size : Int} {root : ByteArray} (h : rootOkM width size root = true) : 0 ≤ size ∧ size ≤ 512 ∧ (root.size : Int) = width := by
 rw [rootOkM, Bool.and_eq_true, Bool.and_eq_true] at h
 have h1 := inR_true.1 h.1.1
 have h2 := of_decide_eq_true h.1.2
 exact ⟨h1.1, h1.2, h2⟩
theorem headOk_all {width : Int} {h : Hd} (hq : headOk width h = true) : 0 ≤ h.num ∧ h.num ≤ 399 ∧ 0 ≤ h.size ∧ h.size ≤ 512 ∧ 0 ≤ h.taken ∧ h.taken ≤ 512 ∧ h.root.size ≤ 32 ∧ h.troot.size ≤ 32 := by
 rw [headOk, Bool.and_eq_true, Bool.and_eq_true, Bool.and_eq_true] at hq
 have h0 := inR_true.1 hq.1.1.1
 have h1 := inR_true.1 hq.1.1.2
 have h2 := rootOkM_all hq.1.2
 have h3 := rootOkM_all hq.2
 omega
theorem headOk_width {width : Int} {h : Hd} (hq : headOk width h = true) : inR width 1 32 = true := by
 rw [headOk, Bool.and_eq_true, Bool.and_eq_true, Bool.and_eq_true] at hq
 exact hq.1.1.1
def headTextM (width : Int) (h : Hd) : ByteArray := if headOk width h then pairB h.num ++ pairB h.size ++ h.root ++ pairB h.taken ++ h.troot else ByteArray.empty
def headHashM (width : Int) (h : Hd) : ByteArray := if headOk width h then digM width 3 (headTextM width h) else ByteArray.empty
theorem headTextM_size (width : Int) (h : Hd) : (headTextM width h).size ≤ 70 := by
 by_cases hq : headOk width h = true
 ·have := headOk_all hq
  rw [headTextM, if_pos hq]
  simp only [ByteArray.size_append, pairB_size]
  omega
 ·rw [headTextM, if_neg hq]; exact Nat.zero_le _
theorem headText_ok (width : Int) (h : Hd) (hq : headOk width h = true) : digOk width 3 (headTextM width h) = true := by
 have := headTextM_size width h
 rw [digOk, headOk_width hq, decide_eq_true (by omega)]; rfl
theorem l03Number2_c {n : Int} (w : World) (h0 : 0 ≤ n) (h : n ≤ 100000000) : Calls Tryz.prog 176 #[.int .i64 n, .int .i64 2] w fun e w' => e = .returned (.string (pairB n)) ∧ Below w.heap.size w w' := by
 have := l03Number_c n 2 w h0 (by omega) (by omega)
 rwa [numUp_2] at this
set_option maxRecDepth 100000 in
set_option maxHeartbeats 400000 in
theorem implHeadText_c (width : Int) (h : Hd) (w : World) (hz : h.bulk ≤ 1048576) : Calls Tryz.prog 146 #[.int .i64 width, .agg #[.int .i64 h.num, .int .i64 h.size, .string h.root, .int .i64 h.taken, .string h.troot]] w fun e w' => e = .returned (.tuple #[.string (headTextM width h), .bool (headOk width h)]) ∧ Below w.heap.size w w' := by
 have HO := Lib.hid (fun W => implHeadOk_c width h W hz)
 rcases hq : headOk width h with _ | _
 ·have HM : Hid (headTextM width h = ⟨#[]⟩) := by rw [Hid, headTextM, hq]; rfl
  rw [hq] at HO
  clear hq
  have HB : Hid (Below w.heap.size w w) := Below.refl _ _
  go_enter Tryz.func146, Tryz.ntmps146
  go_wp2_with fail
  refine calls_named (fun w1 hw => ?_)
  have hz1 : w.heap.size + 1 ≤ w1.heap.size := by rw [hw]; first | omega | (simp [World.setCell]; done) | (simp [World.setCell]; omega)
  have hzz1 : w.heap.size ≤ w1.heap.size := by omega
  have hbn : Below w.heap.size w w1 := by rw [hw]; exact (by ((repeat (first | ((with_reducible refine Below.alloc ?_ ?_ _); rotate_left 1; (focus (first | omega | (simp; done) | (simp; omega)))) | (with_reducible refine Below.drew ?_) | ((with_reducible refine Below.setCell ?_ ?_ _); rotate_left 1; (focus (first | omega | (simp; done) | (simp; omega)))))); exact Below.refl _ _))
  replace HB := Lib.hid (below_then HB.out hbn HB.out.size)
  clear hbn
  have HXh : Hid (NewBox w1 (w.heap.size) [.int .i64 h.num, .int .i64 h.size, .string h.root, .int .i64 h.taken, .string h.troot]) := by rw [Hid, hw]; exact ⟨by first | omega | (simp [World.setCell]; done) | (simp [World.setCell]; omega), fun o => by rcases o with _ | _ | _ | _ | _ | o <;> go_simp, fun o => by go_simp⟩
  have hxh := HXh.out.2.1
  have hfh := HXh.out.2.2
  have hkh := HXh.out.1
  clear hw
  refine (HO.out _).mono ?_
  rintro e w2 ⟨rfl, hb⟩
  have hzw2 : w1.heap.size ≤ w2.heap.size := hb.size
  have hzzw2 : w.heap.size ≤ w2.heap.size := by omega
  replace HB := Lib.hid (below_then HB.out hb HB.out.size)
  replace HXh := Lib.hid (HXh.out.below hb)
  clear hxh hfh hkh
  have hxh := HXh.out.2.1
  have hfh := HXh.out.2.2
  have hkh := HXh.out.1
  clear hb
  go_wp2
  refine bodyPost_ret (v := .tuple #[.string ⟨#[]⟩, .bool false]) (by simp [results, Tryz.results146, go_sem]) rfl ?_
  exact ⟨by rw [HM.out], HB.out⟩
 ·have hb := headOk_all hq
  obtain ⟨g1, g2, g3, g4, g5, g6, g7, g8⟩ := hb
  have HM : Hid (headTextM width h = pairB h.num ++ pairB h.size ++ h.root ++ pairB h.taken ++ h.troot) := by rw [Hid, headTextM, hq]; rfl
  rw [hq] at HO
  have n1 := Lib.hid (fun W => pair_c (n := h.num) W g1 (by omega))
  have n2 := Lib.hid (fun W => pair_c (n := h.size) W g3 (by omega))
  have n3 := Lib.hid (fun W => pair_c (n := h.taken) W g5 (by omega))
  have e1 := pairB_size h.num
  have e2 := pairB_size h.size
  have e3 := pairB_size h.taken
  clear hq hz
  generalize pairB h.num = p1 at *
  generalize pairB h.size = p2 at *
  generalize pairB h.taken = p3 at *
  obtain ⟨s1, hs1⟩ : ∃ s, s = p1 ++ p2 := ⟨_, rfl⟩
  have c1 := fun W : World => run_string_add_sum (P := Tryz.prog) W p1 p2 (by omega)
  have z1 : s1.size ≤ 4 := by rw [hs1, ByteArray.size_append]; omega
  rw [← hs1] at c1
  have HS1 := Lib.hid hs1
  clear hs1
  obtain ⟨s2, hs2⟩ : ∃ s, s = s1 ++ h.root := ⟨_, rfl⟩
  have c2 := fun W : World => run_string_add_sum (P := Tryz.prog) W s1 h.root (by omega)
  have z2 : s2.size ≤ 40 := by rw [hs2, ByteArray.size_append]; omega
  rw [← hs2] at c2
  have HS2 := Lib.hid hs2
  clear hs2
  obtain ⟨s3, hs3⟩ : ∃ s, s = s2 ++ p3 := ⟨_, rfl⟩
  have c3 := fun W : World => run_string_add_sum (P := Tryz.prog) W s2 p3 (by omega)
  have z3 : s3.size ≤ 50 := by rw [hs3, ByteArray.size_append]; omega
  rw [← hs3] at c3
  have HS3 := Lib.hid hs3
  clear hs3
  obtain ⟨s4, hs4⟩ : ∃ s, s = s3 ++ h.troot := ⟨_, rfl⟩
  have c4 := fun W : World => run_string_add_sum (P := Tryz.prog) W s3 h.troot (by omega)
  have z4 : s4.size ≤ 90 := by rw [hs4, ByteArray.size_append]; omega
  rw [← hs4] at c4
  have HS4 := Lib.hid hs4
  clear hs4
  have HB : Hid (Below w.heap.size w w) := Below.refl _ _
  go_enter Tryz.func146, Tryz.ntmps146
  go_wp2_with fail
  refine calls_named (fun w1 hw => ?_)
  have hz1 : w.heap.size + 1 ≤ w1.heap.size := by rw [hw]; first | omega | (simp [World.setCell]; done) | (simp [World.setCell]; omega)
  have hzz1 : w.heap.size ≤ w1.heap.size := by omega
  have hbn : Below w.heap.size w w1 := by rw [hw]; exact (by ((repeat (first | ((with_reducible refine Below.alloc ?_ ?_ _); rotate_left 1; (focus (first | omega | (simp; done) | (simp; omega)))) | (with_reducible refine Below.drew ?_) | ((with_reducible refine Below.setCell ?_ ?_ _); rotate_left 1; (focus (first | omega | (simp; done) | (simp; omega)))))); exact Below.refl _ _))
  replace HB := Lib.hid (below_then HB.out hbn HB.out.size)
  clear hbn
  have HXh : Hid (NewBox w1 (w.heap.size) [.int .i64 h.num, .int .i64 h.size, .string h.root, .int .i64 h.taken, .string h.troot]) := by rw [Hid, hw]; exact ⟨by first | omega | (simp [World.setCell]; done) | (simp [World.setCell]; omega), fun o => by rcases o with _ | _ | _ | _ | _ | o <;> go_simp, fun o => by go_simp⟩
  have hxh := HXh.out.2.1
  have hfh := HXh.out.2.2
  have hkh := HXh.out.1
  clear hw
  refine (HO.out _).mono ?_
  rintro e w2 ⟨rfl, hb⟩
  have hzw2 : w1.heap.size ≤ w2.heap.size := hb.size
  have hzzw2 : w.heap.size ≤ w2.heap.size := by omega
  replace HB := Lib.hid (below_then HB.out hb HB.out.size)
  replace HXh := Lib.hid (HXh.out.below hb)
  clear hxh hfh hkh
  have hxh := HXh.out.2.1
  have hfh := HXh.out.2.2
  have hkh := HXh.out.1
  clear hb
  have l0 : ∀ v : Later w2, v.v.cell? ⟨w.heap.size, 0, none⟩ = some (.int .i64 h.num) := fun v => (later_cell v _ _ hkh).trans (hxh 0)
  have l1 : ∀ v : Later w2, v.v.cell? ⟨w.heap.size, 1, none⟩ = some (.int .i64 h.size) := fun v => (later_cell v _ _ hkh).trans (hxh 1)
  have l2 : ∀ v : Later w2, v.v.cell? ⟨w.heap.size, 2, none⟩ = some (.string h.root) := fun v => (later_cell v _ _ hkh).trans (hxh 2)
  have l3 : ∀ v : Later w2, v.v.cell? ⟨w.heap.size, 3, none⟩ = some (.int .i64 h.taken) := fun v => (later_cell v _ _ hkh).trans (hxh 3)
  have l4 : ∀ v : Later w2, v.v.cell? ⟨w.heap.size, 4, none⟩ = some (.string h.troot) := fun v => (later_cell v _ _ hkh).trans (hxh 4)
  go_wp2_with fail
  refine wp_region_later (by kernel_rfl) (by kernel_rfl) ?_
  repeat (go_big_quiet_step ((first | with_reducible exact later_call (n1.out _) | with_reducible exact later_call (n2.out _) | with_reducible exact later_call (n3.out _))))
  refine wpQuiet_nil ?_
  intro w9 h9
  have hb9 := later_below h9
  have HB9 := Lib.hid (below_then HB.out hb9 HB.out.size)
  clear l0 l1 l2 l3 l4 h9 hb9 hxh hfh
  go_wp2
  refine bodyPost_ret (v := .tuple #[.string s4, .bool true]) (by simp [results, Tryz.results146, go_sem]) rfl ?_
  exact ⟨by rw [HM.out, HS4.out, HS3.out, HS2.out, HS1.out], HB9.out⟩
set_option maxRecDepth 100000 in
set_option maxHeartbeats 400000 in
theorem specHeadText_c (width : Int) (h : Hd) (w : World) (hz : h.bulk ≤ 1048576) : Calls Tryz.prog 142 #[.int .i64 width, .agg #[.int .i64 h.num, .int .i64 h.size, .string h.root, .int .i64 h.taken, .string h.troot]] w fun e w' => e = .returned (.tuple #[.string (headTextM width h), .bool (headOk width h)]) ∧ Below w.heap.size w w' := by
 have HO := Lib.hid (fun W => specHeadOk_c width h W hz)
 rcases hq : headOk width h with _ | _
 ·have HM : Hid (headTextM width h = ⟨#[]⟩) := by rw [Hid, headTextM, hq]; rfl
  rw [hq] at HO
  clear hq
  have HB : Hid (Below w.heap.size w w) := Below.refl _ _
  go_enter Tryz.func142, Tryz.ntmps142
  go_wp2_with fail
  refine calls_named (fun w1 hw => ?_)
  have hz1 : w.heap.size + 1 ≤ w1.heap.size := by rw [hw]; first | omega | (simp [World.setCell]; done) | (simp [World.setCell]; omega)
  have hzz1 : w.heap.size ≤ w1.heap.size := by omega
  have hbn : Below w.heap.size w w1 := by rw [hw]; exact (by ((repeat (first | ((with_reducible refine Below.alloc ?_ ?_ _); rotate_left 1; (focus (first | omega | (simp; done) | (simp; omega)))) | (with_reducible refine Below.drew ?_) | ((with_reducible refine Below.setCell ?_ ?_ _); rotate_left 1; (focus (first | omega | (simp; done) | (simp; omega)))))); exact Below.refl _ _))
  replace HB := Lib.hid (below_then HB.out hbn HB.out.size)
  clear hbn
  have HXh : Hid (NewBox w1 (w.heap.size) [.int .i64 h.num, .int .i64 h.size, .string h.root, .int .i64 h.taken, .string h.troot]) := by rw [Hid, hw]; exact ⟨by first | omega | (simp [World.setCell]; done) | (simp [World.setCell]; omega), fun o => by rcases o with _ | _ | _ | _ | _ | o <;> go_simp, fun o => by go_simp⟩
  have hxh := HXh.out.2.1
  have hfh := HXh.out.2.2
  have hkh := HXh.out.1
  clear hw
  refine (HO.out _).mono ?_
  rintro e w2 ⟨rfl, hb⟩
  have hzw2 : w1.heap.size ≤ w2.heap.size := hb.size
  have hzzw2 : w.heap.size ≤ w2.heap.size := by omega
  replace HB := Lib.hid (below_then HB.out hb HB.out.size)
  replace HXh := Lib.hid (HXh.out.below hb)
  clear hxh hfh hkh
  have hxh := HXh.out.2.1
  have hfh := HXh.out.2.2
  have hkh := HXh.out.1
  clear hb
  go_wp2
  refine bodyPost_ret (v := .tuple #[.string ⟨#[]⟩, .bool false]) (by simp [results, Tryz.results142, go_sem]) rfl ?_
  exact ⟨by rw [HM.out], HB.out⟩
 ·have hb := headOk_all hq
  obtain ⟨g1, g2, g3, g4, g5, g6, g7, g8⟩ := hb
  have HM : Hid (headTextM width h = pairB h.num ++ pairB h.size ++ h.root ++ pairB h.taken ++ h.troot) := by rw [Hid, headTextM, hq]; rfl
  rw [hq] at HO
  have n1 := Lib.hid (fun W => l03Number2_c (n := h.num) W g1 (by omega))
  have n2 := Lib.hid (fun W => l03Number2_c (n := h.size) W g3 (by omega))
  have n3 := Lib.hid (fun W => l03Number2_c (n := h.taken) W g5 (by omega))
  have e1 := pairB_size h.num
  have e2 := pairB_size h.size
  have e3 := pairB_size h.taken
  clear hq hz
  generalize pairB h.num = p1 at *
  generalize pairB h.size = p2 at *
  generalize pairB h.taken = p3 at *
  obtain ⟨s1, hs1⟩ : ∃ s, s = p1 ++ p2 := ⟨_, rfl⟩
  have c1 := fun W : World => run_string_add_sum (P := Tryz.prog) W p1 p2 (by omega)
  have z1 : s1.size ≤ 4 := by rw [hs1, ByteArray.size_append]; omega
  rw [← hs1] at c1
  have HS1 := Lib.hid hs1
  clear hs1
  obtain ⟨s2, hs2⟩ : ∃ s, s = s1 ++ h.root := ⟨_, rfl⟩
  have c2 := fun W : World => run_string_add_sum (P := Tryz.prog) W s1 h.root (by omega)
  have z2 : s2.size ≤ 40 := by rw [hs2, ByteArray.size_append]; omega
  rw [← hs2] at c2
  have HS2 := Lib.hid hs2
  clear hs2
  obtain ⟨s3, hs3⟩ : ∃ s, s = s2 ++ p3 := ⟨_, rfl⟩
  have c3 := fun W : World => run_string_add_sum (P := Tryz.prog) W s2 p3 (by omega)
  have z3 : s3.size ≤ 50 := by rw [hs3, ByteArray.size_append]; omega
  rw [← hs3] at c3
  have HS3 := Lib.hid hs3
  clear hs3
  obtain ⟨s4, hs4⟩ : ∃ s, s = s3 ++ h.troot := ⟨_, rfl⟩
  have c4 := fun W : World => run_string_add_sum (P := Tryz.prog) W s3 h.troot (by omega)
  have z4 : s4.size ≤ 90 := by rw [hs4, ByteArray.size_append]; omega
  rw [← hs4] at c4
  have HS4 := Lib.hid hs4
  clear hs4
  have HB : Hid (Below w.heap.size w w) := Below.refl _ _
  go_enter Tryz.func142, Tryz.ntmps142
  go_wp2_with fail
  refine calls_named (fun w1 hw => ?_)
  have hz1 : w.heap.size + 1 ≤ w1.heap.size := by rw [hw]; first | omega | (simp [World.setCell]; done) | (simp [World.setCell]; omega)
  have hzz1 : w.heap.size ≤ w1.heap.size := by omega
  have hbn : Below w.heap.size w w1 := by rw [hw]; exact (by ((repeat (first | ((with_reducible refine Below.alloc ?_ ?_ _); rotate_left 1; (focus (first | omega | (simp; done) | (simp; omega)))) | (with_reducible refine Below.drew ?_) | ((with_reducible refine Below.setCell ?_ ?_ _); rotate_left 1; (focus (first | omega | (simp; done) | (simp; omega)))))); exact Below.refl _ _))
  replace HB := Lib.hid (below_then HB.out hbn HB.out.size)
  clear hbn
  have HXh : Hid (NewBox w1 (w.heap.size) [.int .i64 h.num, .int .i64 h.size, .string h.root, .int .i64 h.taken, .string h.troot]) := by rw [Hid, hw]; exact ⟨by first | omega | (simp [World.setCell]; done) | (simp [World.setCell]; omega), fun o => by rcases o with _ | _ | _ | _ | _ | o <;> go_simp, fun o => by go_simp⟩
  have hxh := HXh.out.2.1
  have hfh := HXh.out.2.2
  have hkh := HXh.out.1
  clear hw
  refine (HO.out _).mono ?_
  rintro e w2 ⟨rfl, hb⟩
  have hzw2 : w1.heap.size ≤ w2.heap.size := hb.size
  have hzzw2 : w.heap.size ≤ w2.heap.size := by omega
  replace HB := Lib.hid (below_then HB.out hb HB.out.size)
  replace HXh := Lib.hid (HXh.out.below hb)
  clear hxh hfh hkh
  have hxh := HXh.out.2.1
  have hfh := HXh.out.2.2
  have hkh := HXh.out.1
  clear hb
  have l0 : ∀ v : Later w2, v.v.cell? ⟨w.heap.size, 0, none⟩ = some (.int .i64 h.num) := fun v => (later_cell v _ _ hkh).trans (hxh 0)
  have l1 : ∀ v : Later w2, v.v.cell? ⟨w.heap.size, 1, none⟩ = some (.int .i64 h.size) := fun v => (later_cell v _ _ hkh).trans (hxh 1)
  have l2 : ∀ v : Later w2, v.v.cell? ⟨w.heap.size, 2, none⟩ = some (.string h.root) := fun v => (later_cell v _ _ hkh).trans (hxh 2)
  have l3 : ∀ v : Later w2, v.v.cell? ⟨w.heap.size, 3, none⟩ = some (.int .i64 h.taken) := fun v => (later_cell v _ _ hkh).trans (hxh 3)
  have l4 : ∀ v : Later w2, v.v.cell? ⟨w.heap.size, 4, none⟩ = some (.string h.troot) := fun v => (later_cell v _ _ hkh).trans (hxh 4)
  go_wp2_with fail
  refine wp_region_later (by kernel_rfl) (by kernel_rfl) ?_
  repeat (go_big_quiet_step ((first | with_reducible exact later_call (n1.out _) | with_reducible exact later_call (n2.out _) | with_reducible exact later_call (n3.out _))))
  refine wpQuiet_nil ?_
  intro w9 h9
  have hb9 := later_below h9
  have HB9 := Lib.hid (below_then HB.out hb9 HB.out.size)
  clear l0 l1 l2 l3 l4 h9 hb9 hxh hfh
  go_wp2
  refine bodyPost_ret (v := .tuple #[.string s4, .bool true]) (by simp [results, Tryz.results142, go_sem]) rfl ?_
  exact ⟨by rw [HM.out, HS4.out, HS3.out, HS2.out, HS1.out], HB9.out⟩
end Go.Proofs.YtmmepogjocfefaaGreat

namespace Go.Proofs.YtmmepogjocfefaaGreat
set_option linter.unusedVariables false
set_option linter.unusedSimpArgs false
open Go.RowKit

def partedB (s r t u : Bool) : Bool := s && !r || t && !u
def partedM (a b : Hd) : Bool := partedB (a.size == b.size) (a.root.toList == b.root.toList) (a.taken == b.taken) (a.troot.toList == b.troot.toList)
def forkM (width : Int) (a b : Hd) : Bool := headOk width a && headOk width b && partedM a b
def aheadM (a b : Hd) : Bool := decide (b.num ≤ a.num) || decide (b.size < a.size) || decide (b.taken < a.taken)
def followsM (width : Int) (a b : Hd) : Bool := headOk width a && headOk width b && !aheadM a b && !partedM a b
theorem bne_of_beq {α : Type} [BEq α] {a b : α} {q : Bool} (h : (a == b) = q) : (a != b) = !q := by rw [bne, h]

set_option maxRecDepth 100000 in
set_option maxHeartbeats 400000 in
theorem parted_c (a b : Hd) (w : World) : Calls Tryz.prog 191 #[.agg #[.int .i64 a.num, .int .i64 a.size, .string a.root, .int .i64 a.taken, .string a.troot], .agg #[.int .i64 b.num, .int .i64 b.size, .string b.root, .int .i64 b.taken, .string b.troot]] w fun e w' => e = .returned (.bool (partedM a b)) ∧ Below w.heap.size w w' := by
 have HP : Hid (partedM a b = partedB (a.size == b.size) (a.root.toList == b.root.toList) (a.taken == b.taken) (a.troot.toList == b.troot.toList)) := Lib.hid rfl
 rcases h1 : (a.size == b.size) with _ | _ <;> rcases h2 : (a.root.toList == b.root.toList) with _ | _ <;> rcases h3 : (a.taken == b.taken) with _ | _ <;> rcases h4 : (a.troot.toList == b.troot.toList) with _ | _
 all_goals
  rw [h1, h2, h3, h4] at HP
  have n1 := bne_of_beq h1
  have n2 := bne_of_beq h2
  have n3 := bne_of_beq h3
  have n4 := bne_of_beq h4
  generalize partedM a b = pm at *
  go_enter Tryz.func191, Tryz.ntmps191
  go_wp2
  go_ret
  exact ⟨ret_bool (by rw [HP.out]; rfl), ((Below.refl _ _).alloc (Nat.le_refl _) _).alloc (by first | omega | (simp; done) | (simp; omega)) _⟩
set_option maxRecDepth 100000 in
set_option maxHeartbeats 400000 in
theorem implFollows_c (width : Int) (a b : Hd) (w : World) (hz : a.bulk + b.bulk ≤ 1048576) : Calls Tryz.prog 161 #[.int .i64 width, .agg #[.int .i64 a.num, .int .i64 a.size, .string a.root, .int .i64 a.taken, .string a.troot], .agg #[.int .i64 b.num, .int .i64 b.size, .string b.root, .int .i64 b.taken, .string b.troot]] w fun e w' => e = .returned (.bool (followsM width a b)) ∧ Below w.heap.size w w' := by
 have HA := Lib.hid (fun W => implHeadOk_c width a W (by omega))
 have HBB := Lib.hid (fun W => implHeadOk_c width b W (by omega))
 have HF : Hid (followsM width a b = (headOk width a && headOk width b && !(decide (b.num ≤ a.num) || decide (b.size < a.size) || decide (b.taken < a.taken)) && !partedM a b)) := Lib.hid rfl
 clear hz
 generalize followsM width a b = fm at *
 generalize headOk width a = ka at *
 generalize headOk width b = kb at *
 have HB : Hid (Below w.heap.size w w) := Below.refl _ _
 go_enter Tryz.func161, Tryz.ntmps161
 go_wp2_with fail
 refine calls_named (fun w1 hw => ?_)
 have hz1 : w.heap.size + 2 ≤ w1.heap.size := by rw [hw]; first | omega | (simp [World.setCell]; done) | (simp [World.setCell]; omega)
 have hzz1 : w.heap.size ≤ w1.heap.size := by omega
 have hbn : Below w.heap.size w w1 := by rw [hw]; exact (by ((repeat (first | ((with_reducible refine Below.alloc ?_ ?_ _); rotate_left 1; (focus (first | omega | (simp; done) | (simp; omega)))) | (with_reducible refine Below.drew ?_) | ((with_reducible refine Below.setCell ?_ ?_ _); rotate_left 1; (focus (first | omega | (simp; done) | (simp; omega)))))); exact Below.refl _ _))
 replace HB := Lib.hid (below_then HB.out hbn HB.out.size)
 clear hbn
 have HXa : Hid (NewBox w1 (w.heap.size) [.int .i64 a.num, .int .i64 a.size, .string a.root, .int .i64 a.taken, .string a.troot]) := by rw [Hid, hw]; exact ⟨by first | omega | (simp [World.setCell]; done) | (simp [World.setCell]; omega), fun o => by rcases o with _ | _ | _ | _ | _ | o <;> go_simp, fun o => by go_simp⟩
 have hxa := HXa.out.2.1
 have hfa := HXa.out.2.2
 have hka := HXa.out.1
 have HXb : Hid (NewBox w1 (w.heap.size + 1) [.int .i64 b.num, .int .i64 b.size, .string b.root, .int .i64 b.taken, .string b.troot]) := by rw [Hid, hw]; exact ⟨by first | omega | (simp [World.setCell]; done) | (simp [World.setCell]; omega), fun o => by rcases o with _ | _ | _ | _ | _ | o <;> go_simp, fun o => by go_simp⟩
 have hxb := HXb.out.2.1
 have hfb := HXb.out.2.2
 have hkb := HXb.out.1
 clear hw
 refine (HA.out _).mono ?_
 rintro e w2 ⟨rfl, hb⟩
 have hzw2 : w1.heap.size ≤ w2.heap.size := hb.size
 have hzzw2 : w.heap.size ≤ w2.heap.size := by omega
 replace HB := Lib.hid (below_then HB.out hb HB.out.size)
 replace HXa := Lib.hid (HXa.out.below hb)
 clear hxa hfa hka
 have hxa := HXa.out.2.1
 have hfa := HXa.out.2.2
 have hka := HXa.out.1
 replace HXb := Lib.hid (HXb.out.below hb)
 clear hxb hfb hkb
 have hxb := HXb.out.2.1
 have hfb := HXb.out.2.2
 have hkb := HXb.out.1
 clear hb
 rcases ka with _ | _
 ·go_wp2
  go_ret
  exact ⟨ret_bool (by rw [HF.out]; rfl), HB.out⟩
 ·go_wp2_with fail
  refine calls_named (fun w3 hw => ?_)
  have hz3 : w2.heap.size + 0 ≤ w3.heap.size := by rw [hw]; first | omega | (simp [World.setCell]; done) | (simp [World.setCell]; omega)
  have hzz3 : w.heap.size ≤ w3.heap.size := by omega
  have hbn : Below w2.heap.size w2 w3 := by rw [hw]; exact (by ((repeat (first | ((with_reducible refine Below.alloc ?_ ?_ _); rotate_left 1; (focus (first | omega | (simp; done) | (simp; omega)))) | (with_reducible refine Below.drew ?_) | ((with_reducible refine Below.setCell ?_ ?_ _); rotate_left 1; (focus (first | omega | (simp; done) | (simp; omega)))))); exact Below.refl _ _))
  replace HB := Lib.hid (below_then HB.out hbn HB.out.size)
  replace HXa := Lib.hid (HXa.out.below hbn)
  clear hxa hfa hka
  have hxa := HXa.out.2.1
  have hfa := HXa.out.2.2
  have hka := HXa.out.1
  replace HXb := Lib.hid (HXb.out.below hbn)
  clear hxb hfb hkb
  have hxb := HXb.out.2.1
  have hfb := HXb.out.2.2
  have hkb := HXb.out.1
  clear hbn
  clear hw
  refine (HBB.out _).mono ?_
  rintro e w4 ⟨rfl, hb⟩
  have hzw4 : w3.heap.size ≤ w4.heap.size := hb.size
  have hzzw4 : w.heap.size ≤ w4.heap.size := by omega
  replace HB := Lib.hid (below_then HB.out hb HB.out.size)
  replace HXa := Lib.hid (HXa.out.below hb)
  clear hxa hfa hka
  have hxa := HXa.out.2.1
  have hfa := HXa.out.2.2
  have hka := HXa.out.1
  replace HXb := Lib.hid (HXb.out.below hb)
  clear hxb hfb hkb
  have hxb := HXb.out.2.1
  have hfb := HXb.out.2.2
  have hkb := HXb.out.1
  clear hb
  rcases kb with _ | _
  ·go_wp2
   go_ret
   exact ⟨ret_bool (by rw [HF.out]; rfl), HB.out⟩
  ·skip
   by_cases d1 : b.num ≤ a.num
   ·go_wp2
    go_ret
    exact ⟨ret_bool (by rw [HF.out]; simp [d1]), HB.out⟩
   ·by_cases d2 : b.size < a.size
    ·go_wp2
     go_ret
     exact ⟨ret_bool (by rw [HF.out]; simp [d2]), HB.out⟩
    ·by_cases d3 : b.taken < a.taken
     ·go_wp2
      go_ret
      exact ⟨ret_bool (by rw [HF.out]; simp [d3]), HB.out⟩
     ·skip
      go_wp2_with fail
      refine calls_named (fun w5 hw => ?_)
      have hz5 : w4.heap.size + 0 ≤ w5.heap.size := by rw [hw]; first | omega | (simp [World.setCell]; done) | (simp [World.setCell]; omega)
      have hzz5 : w.heap.size ≤ w5.heap.size := by omega
      have hbn : Below w4.heap.size w4 w5 := by rw [hw]; exact (by ((repeat (first | ((with_reducible refine Below.alloc ?_ ?_ _); rotate_left 1; (focus (first | omega | (simp; done) | (simp; omega)))) | (with_reducible refine Below.drew ?_) | ((with_reducible refine Below.setCell ?_ ?_ _); rotate_left 1; (focus (first | omega | (simp; done) | (simp; omega)))))); exact Below.refl _ _))
      replace HB := Lib.hid (below_then HB.out hbn HB.out.size)
      replace HXa := Lib.hid (HXa.out.below hbn)
      clear hxa hfa hka
      have hxa := HXa.out.2.1
      have hfa := HXa.out.2.2
      have hka := HXa.out.1
      replace HXb := Lib.hid (HXb.out.below hbn)
      clear hxb hfb hkb
      have hxb := HXb.out.2.1
      have hfb := HXb.out.2.2
      have hkb := HXb.out.1
      clear hbn
      clear hw
      refine (parted_c a b _).mono ?_
      rintro e w6 ⟨rfl, hb⟩
      have hzw6 : w5.heap.size ≤ w6.heap.size := hb.size
      have hzzw6 : w.heap.size ≤ w6.heap.size := by omega
      replace HB := Lib.hid (below_then HB.out hb HB.out.size)
      replace HXa := Lib.hid (HXa.out.below hb)
      clear hxa hfa hka
      have hxa := HXa.out.2.1
      have hfa := HXa.out.2.2
      have hka := HXa.out.1
      replace HXb := Lib.hid (HXb.out.below hb)
      clear hxb hfb hkb
      have hxb := HXb.out.2.1
      have hfb := HXb.out.2.2
      have hkb := HXb.out.1
      clear hb
      have H1 : Hid (decide (b.num ≤ a.num) = false ∧ decide (b.size < a.size) = false ∧ decide (b.taken < a.taken) = false) := ⟨decide_eq_false (by omega), decide_eq_false (by omega), decide_eq_false (by omega)⟩
      generalize partedM a b = pm at *
      go_wp2
      go_ret
      exact ⟨ret_bool (by rw [HF.out, H1.out.1, H1.out.2.1, H1.out.2.2]; rfl), HB.out⟩
set_option maxRecDepth 100000 in
set_option maxHeartbeats 4000000 in
theorem specFollows_c (width : Int) (a b : Hd) (w : World) (hz : a.bulk + b.bulk ≤ 1048576) : Calls Tryz.prog 109 #[.int .i64 width, .agg #[.int .i64 a.num, .int .i64 a.size, .string a.root, .int .i64 a.taken, .string a.troot], .agg #[.int .i64 b.num, .int .i64 b.size, .string b.root, .int .i64 b.taken, .string b.troot]] w fun e w' => e = .returned (.bool (followsM width a b)) ∧ Below w.heap.size w w' := by
 have HA := Lib.hid (fun W => specHeadOk_c width a W (by omega))
 have HBB := Lib.hid (fun W => specHeadOk_c width b W (by omega))
 have HF : Hid (followsM width a b = (headOk width a && headOk width b && !(decide (b.num ≤ a.num) || decide (b.size < a.size) || decide (b.taken < a.taken)) && !partedM a b)) := Lib.hid rfl
 have HP : Hid (partedM a b = partedB (a.size == b.size) (a.root.toList == b.root.toList) (a.taken == b.taken) (a.troot.toList == b.troot.toList)) := Lib.hid rfl
 clear hz
 generalize partedM a b = pm at *
 generalize followsM width a b = fm at *
 generalize headOk width a = ka at *
 generalize headOk width b = kb at *
 have HB : Hid (Below w.heap.size w w) := Below.refl _ _
 go_enter Tryz.func109, Tryz.ntmps109
 go_wp2_with fail
 refine calls_named (fun w1 hw => ?_)
 have hz1 : w.heap.size + 2 ≤ w1.heap.size := by rw [hw]; first | omega | (simp [World.setCell]; done) | (simp [World.setCell]; omega)
 have hzz1 : w.heap.size ≤ w1.heap.size := by omega
 have hbn : Below w.heap.size w w1 := by rw [hw]; exact (by ((repeat (first | ((with_reducible refine Below.alloc ?_ ?_ _); rotate_left 1; (focus (first | omega | (simp; done) | (simp; omega)))) | (with_reducible refine Below.drew ?_) | ((with_reducible refine Below.setCell ?_ ?_ _); rotate_left 1; (focus (first | omega | (simp; done) | (simp; omega)))))); exact Below.refl _ _))
 replace HB := Lib.hid (below_then HB.out hbn HB.out.size)
 clear hbn
 have HXa : Hid (NewBox w1 (w.heap.size) [.int .i64 a.num, .int .i64 a.size, .string a.root, .int .i64 a.taken, .string a.troot]) := by rw [Hid, hw]; exact ⟨by first | omega | (simp [World.setCell]; done) | (simp [World.setCell]; omega), fun o => by rcases o with _ | _ | _ | _ | _ | o <;> go_simp, fun o => by go_simp⟩
 have hxa := HXa.out.2.1
 have hfa := HXa.out.2.2
 have hka := HXa.out.1
 have HXb : Hid (NewBox w1 (w.heap.size + 1) [.int .i64 b.num, .int .i64 b.size, .string b.root, .int .i64 b.taken, .string b.troot]) := by rw [Hid, hw]; exact ⟨by first | omega | (simp [World.setCell]; done) | (simp [World.setCell]; omega), fun o => by rcases o with _ | _ | _ | _ | _ | o <;> go_simp, fun o => by go_simp⟩
 have hxb := HXb.out.2.1
 have hfb := HXb.out.2.2
 have hkb := HXb.out.1
 clear hw
 refine (HA.out _).mono ?_
 rintro e w2 ⟨rfl, hb⟩
 have hzw2 : w1.heap.size ≤ w2.heap.size := hb.size
 have hzzw2 : w.heap.size ≤ w2.heap.size := by omega
 replace HB := Lib.hid (below_then HB.out hb HB.out.size)
 replace HXa := Lib.hid (HXa.out.below hb)
 clear hxa hfa hka
 have hxa := HXa.out.2.1
 have hfa := HXa.out.2.2
 have hka := HXa.out.1
 replace HXb := Lib.hid (HXb.out.below hb)
 clear hxb hfb hkb
 have hxb := HXb.out.2.1
 have hfb := HXb.out.2.2
 have hkb := HXb.out.1
 clear hb
 rcases ka with _ | _
 ·go_wp2
  go_ret
  exact ⟨ret_bool (by rw [HF.out]; rfl), HB.out⟩
 ·go_wp2_with fail
  refine calls_named (fun w3 hw => ?_)
  have hz3 : w2.heap.size + 0 ≤ w3.heap.size := by rw [hw]; first | omega | (simp [World.setCell]; done) | (simp [World.setCell]; omega)
  have hzz3 : w.heap.size ≤ w3.heap.size := by omega
  have hbn : Below w2.heap.size w2 w3 := by rw [hw]; exact (by ((repeat (first | ((with_reducible refine Below.alloc ?_ ?_ _); rotate_left 1; (focus (first | omega | (simp; done) | (simp; omega)))) | (with_reducible refine Below.drew ?_) | ((with_reducible refine Below.setCell ?_ ?_ _); rotate_left 1; (focus (first | omega | (simp; done) | (simp; omega)))))); exact Below.refl _ _))
  replace HB := Lib.hid (below_then HB.out hbn HB.out.size)
  replace HXa := Lib.hid (HXa.out.below hbn)
  clear hxa hfa hka
  have hxa := HXa.out.2.1
  have hfa := HXa.out.2.2
  have hka := HXa.out.1
  replace HXb := Lib.hid (HXb.out.below hbn)
  clear hxb hfb hkb
  have hxb := HXb.out.2.1
  have hfb := HXb.out.2.2
  have hkb := HXb.out.1
  clear hbn
  clear hw
  refine (HBB.out _).mono ?_
  rintro e w4 ⟨rfl, hb⟩
  have hzw4 : w3.heap.size ≤ w4.heap.size := hb.size
  have hzzw4 : w.heap.size ≤ w4.heap.size := by omega
  replace HB := Lib.hid (below_then HB.out hb HB.out.size)
  replace HXa := Lib.hid (HXa.out.below hb)
  clear hxa hfa hka
  have hxa := HXa.out.2.1
  have hfa := HXa.out.2.2
  have hka := HXa.out.1
  replace HXb := Lib.hid (HXb.out.below hb)
  clear hxb hfb hkb
  have hxb := HXb.out.2.1
  have hfb := HXb.out.2.2
  have hkb := HXb.out.1
  clear hb
  rcases kb with _ | _
  ·go_wp2
   go_ret
   exact ⟨ret_bool (by rw [HF.out]; rfl), HB.out⟩
  ·by_cases d1 : b.num ≤ a.num
   ·go_wp2
    go_ret
    exact ⟨ret_bool (by rw [HF.out]; simp [d1]), HB.out⟩
   ·by_cases d2 : b.size < a.size
    ·go_wp2
     go_ret
     exact ⟨ret_bool (by rw [HF.out]; simp [d2]), HB.out⟩
    ·by_cases d3 : b.taken < a.taken
     ·go_wp2
      go_ret
      exact ⟨ret_bool (by rw [HF.out]; simp [d3]), HB.out⟩
     ·have H1 : Hid (decide (b.num ≤ a.num) = false ∧ decide (b.size < a.size) = false ∧ decide (b.taken < a.taken) = false) := ⟨decide_eq_false (by omega), decide_eq_false (by omega), decide_eq_false (by omega)⟩
      rcases h1 : (a.size == b.size) with _ | _ <;> rcases h2 : (a.root.toList == b.root.toList) with _ | _ <;> rcases h3 : (a.taken == b.taken) with _ | _ <;> rcases h4 : (a.troot.toList == b.troot.toList) with _ | _
      all_goals
       rw [h1, h2, h3, h4] at HP
       have n1 := bne_of_beq h1
       have n2 := bne_of_beq h2
       have n3 := bne_of_beq h3
       have n4 := bne_of_beq h4
       go_wp2
       go_ret
       exact ⟨ret_bool (by rw [HF.out, HP.out, H1.out.1, H1.out.2.1, H1.out.2.2]; rfl), HB.out⟩
end Go.Proofs.YtmmepogjocfefaaGreat

namespace Go.Proofs.YtmmepogjocfefaaGreat
set_option linter.unusedVariables false
set_option linter.unusedSimpArgs false
open Go.RowKit

def headAt (width : Int) (l : List Hd) (i : Nat) : Bool := match l[i]? with
 | some h => (h.num == (i : Int)) && headOk width h && (i == 0 || match l[i - 1]? with | some p => followsM width p h | none => false)
 | none => false
def headsUp (width : Int) (l : List Hd) : Nat → Bool
 | 0 => true
 | k + 1 => headsUp width l k && headAt width l k
def headsOk (width : Int) (l : List Hd) : Bool := inR width 1 32 && decide (l.length ≤ 400) && headsUp width l l.length
theorem headsUp_le {width : Int} {l : List Hd} : ∀ {n k : Nat}, k ≤ n → headsUp width l n = true → headsUp width l k = true
 | 0, k, hk, h => by
   obtain rfl : k = 0 := by omega
   exact h
 | n + 1, k, hk, h => by
   by_cases e : k = n + 1
   ·subst e; exact h
   ·rw [headsUp, Bool.and_eq_true] at h
    exact headsUp_le (by omega) h.1
theorem headsUp_no {width : Int} {l : List Hd} {n k : Nat} (hn : l.length = n) (hk : k < n) (h : headAt width l k = false) : headsUp width l l.length = false := by
 rcases hh : headsUp width l l.length with _ | _
 ·rfl
 ·have h1 := headsUp_le (n := l.length) (k := k + 1) (by omega) hh
  rw [headsUp, h, Bool.and_false] at h1
  cases h1
theorem headAt_0 {width : Int} {l : List Hd} {x : Hd} (hx : l[0]? = some x) : headAt width l 0 = ((x.num == ((0 : Nat) : Int)) && headOk width x) := by
 rw [headAt, hx]; simp
theorem headAt_s {width : Int} {l : List Hd} {x p : Hd} {k q : Nat} (hx : l[k]? = some x) (hp : l[q]? = some p) (hk : k = q + 1) : headAt width l k = ((x.num == (k : Int)) && headOk width x && followsM width p x) := by
 subst hk
 rw [headAt, hx]
 simp [hp]
theorem headAt_num {width : Int} {l : List Hd} {x : Hd} {k : Nat} (hx : l[k]? = some x) (h : (x.num == (k : Int)) = false) : headAt width l k = false := by
 rw [headAt, hx]; simp [h]
theorem headAt_ok {width : Int} {l : List Hd} {x : Hd} {k : Nat} (hx : l[k]? = some x) (h : headOk width x = false) : headAt width l k = false := by
 rw [headAt, hx]; simp [h]
theorem sumBy_two {α : Type} (f : α → Nat) {l : List α} {k q : Nat} {x p : α} (hx : l[k]? = some x) (hp : l[q]? = some p) (hk : k = q + 1) : f p + f x ≤ sumBy f l := by
 subst hk
 have h1 := sumBy_take f hx
 have h2 := sumBy_take f hp
 have h3 := sumBy_take_le f l (q + 1 + 1)
 omega
theorem hd_cells {w : World} {lo hi : Nat} {A : Option Addr} {l : List Hd} (h : Rd w lo hi A (hds l)) {k : Nat} (hk : k < l.length) : ∃ b off x, A = some ⟨b, off, none⟩ ∧ b < w.heap.size ∧ l[k]? = some x ∧
  w.cell? ⟨b, off + k * 5, none⟩ = some (.int .i64 x.num) ∧ w.cell? ⟨b, off + k * 5 + 1, none⟩ = some (.int .i64 x.size) ∧ w.cell? ⟨b, off + k * 5 + 2, none⟩ = some (.string x.root) ∧ w.cell? ⟨b, off + k * 5 + 3, none⟩ = some (.int .i64 x.taken) ∧ w.cell? ⟨b, off + k * 5 + 4, none⟩ = some (.string x.troot) := by
 obtain ⟨b, off, x, h1, _, _, h4, h5, h6⟩ := Rd.flat (f := Hd.cells) (m := 5) (fun _ => rfl) (by omega) h hk
 exact ⟨b, off, x, h1, h4, h5, h6 0 _ rfl, h6 1 _ rfl, h6 2 _ rfl, h6 3 _ rfl, h6 4 _ rfl⟩

set_option maxRecDepth 100000 in
set_option maxHeartbeats 4000000 in
theorem implHeadsOk_c (width : Int) (A : Option Addr) (c lo hi n : Nat) (l : List Hd) (w : World) (hr : Rd w lo hi A (hds l)) (hn : l.length = n) (hl : n + sumBy Hd.bulk l ≤ 1048576) :
  Calls Tryz.prog 119 #[.int .i64 width, .slice A n c] w fun e w' => e = .returned (.bool (headsOk width l)) ∧ Below w.heap.size w w' := by
 have HN := Lib.hid hn
 have HL := Lib.hid hl
 have HR := Lib.hid hr
 have HDEF : Hid (headsOk width l = (inR width 1 32 && decide (l.length ≤ 400) && headsUp width l l.length)) := Lib.hid rfl
 have hn2 : n ≤ 1048576 := by omega
 clear hn hl hr
 go_enter Tryz.func119, Tryz.ntmps119
 go_wp2_with fail
 refine (isWidth_c width _).mono ?_
 rintro e w1 ⟨rfl, rfl⟩
 rcases hq : inR width 1 32 with _ | _
 ·go_wp2
  go_ret
  exact ⟨ret_bool (by rw [HDEF.out, hq]; rfl), Below.refl _ _⟩
 ·rw [hq] at HDEF
  clear hq
  by_cases h4 : n ≤ 400
  ·have H4 : Hid (decide (l.length ≤ 400) = true) := Lib.hid (by rw [HN.out]; exact decide_eq_true h4)
   go_wp2
   go_loopw [17] (fun i wx => ∃ k : Nat, k ≤ n ∧ i = .int .i64 k ∧ headsUp width l k = true ∧ Below w.heap.size w wx) (fun i _ => n - (intOf i).toNat)
   case atStart => exact ⟨0, Nat.zero_le _, rfl, rfl, Below.refl _ _⟩
   case round =>
    obtain ⟨k, hk, rfl, hup, hbr⟩ := hrel
    have HUP := Lib.hid hup
    clear hup
    by_cases hlt : k < n
    ·obtain ⟨b, off, x, rfl, hb, hx, hc⟩ := hd_cells (HR.out.below hbr) (k := k) (by rw [HN.out]; exact hlt)
     have hc0 := hc.1
     have hc1 := hc.2.1
     have hc2 := hc.2.2.1
     have hc3 := hc.2.2.2.1
     have hc4 := hc.2.2.2.2
     have HX := Lib.hid hx
     have HBR0 := Lib.hid hbr
     have hbk : Hid (x.bulk ≤ 1048576) := Lib.hid (by have := sumBy_get Hd.bulk hx; have := HL.out; omega)
     have hI : (k : Int) < n := by omega
     clear hc hx
     go_wp2_with fail
     refine wp_named (fun w5 hw => ?_)
     have HBR : Hid (Below w.heap.size w w5) := by rw [Hid, hw]; exact HBR0.out.alloc HBR0.out.size _
     have hX : NewBox w5 wr.heap.size x.cells := by rw [hw]; exact NewBox.new wr x.cells.toArray _
     have hz5 : wr.heap.size < w5.heap.size := hX.1
     clear hw hc0 hc1 hc2 hc3 hc4
     have g0 : ∀ v : Later w5, v.v.cell? ⟨wr.heap.size, 0, none⟩ = some (.int .i64 x.num) := fun v => (later_cell v _ _ hz5).trans (hX.cell (o := 0) rfl)
     have g1 : ∀ v : Later w5, v.v.cell? ⟨wr.heap.size, 1, none⟩ = some (.int .i64 x.size) := fun v => (later_cell v _ _ hz5).trans (hX.cell (o := 1) rfl)
     have g2 : ∀ v : Later w5, v.v.cell? ⟨wr.heap.size, 2, none⟩ = some (.string x.root) := fun v => (later_cell v _ _ hz5).trans (hX.cell (o := 2) rfl)
     have g3 : ∀ v : Later w5, v.v.cell? ⟨wr.heap.size, 3, none⟩ = some (.int .i64 x.taken) := fun v => (later_cell v _ _ hz5).trans (hX.cell (o := 3) rfl)
     have g4 : ∀ v : Later w5, v.v.cell? ⟨wr.heap.size, 4, none⟩ = some (.string x.troot) := fun v => (later_cell v _ _ hz5).trans (hX.cell (o := 4) rfl)
     clear hX
     rcases d1 : (x.num == (k : Int)) with _ | _
     ·have n1 := bne_of_beq d1
      have HAT := Lib.hid (headAt_num (width := width) HX.out d1)
      refine wp_region_later (by kernel_rfl) (by kernel_rfl) ?_
      repeat (go_big_quiet_step (fail))
      refine wpQuiet_nil ?_
      intro w8 h8
      have HB8 : Hid (Below w.heap.size w w8) := below_then HBR.out (later_below h8) HBR.out.size
      clear h8
      clear g0 g1 g2 g3 g4
      go_wp2
      go_ret
      exact ⟨ret_bool (by rw [HDEF.out, headsUp_no HN.out hlt HAT.out]; simp), HB8.out⟩
     ·have n1 := bne_of_beq d1
      have HO := Lib.hid (fun W => implHeadOk_c width x W hbk.out)
      rcases q1 : headOk width x with _ | _
      ·have HAT := Lib.hid (headAt_ok (width := width) HX.out q1)
       rw [q1] at HO
       clear q1
       refine wp_region_later (by kernel_rfl) (by kernel_rfl) ?_
       repeat (go_big_quiet_step ((with_reducible exact later_call (HO.out _))))
       refine wpQuiet_nil ?_
       intro w8 h8
       have HB8 : Hid (Below w.heap.size w w8) := below_then HBR.out (later_below h8) HBR.out.size
       clear h8
       clear g0 g1 g2 g3 g4
       go_wp2
       go_ret
       exact ⟨ret_bool (by rw [HDEF.out, headsUp_no HN.out hlt HAT.out]; simp), HB8.out⟩
      ·have Q1 := Lib.hid q1
       have D1 := Lib.hid d1
       rw [q1] at HO
       clear q1
       rcases (show k = 0 ∨ 0 < k by omega) with hk0 | hk0
       ·have HAT : Hid (headAt width l k = true) := Lib.hid (by subst hk0; rw [headAt_0 HX.out, D1.out, Q1.out]; rfl)
        have e0 : decide ((0 : Int) < (k : Int)) = false := decide_eq_false (by omega)
        have n0 : (x.num != 0) = false := by subst hk0; exact n1
        refine wp_region_later (by kernel_rfl) (by kernel_rfl) ?_
        repeat (go_big_quiet_step ((with_reducible exact later_call (HO.out _))))
        refine wpQuiet_nil ?_
        intro w8 h8
        have HB8 : Hid (Below w.heap.size w w8) := below_then HBR.out (later_below h8) HBR.out.size
        clear h8
        clear g0 g1 g2 g3 g4 e0 n0
        go_wp2
        go_round
        case rel => exact ⟨k + 1, by omega, by go_num, by rw [headsUp, HUP.out, HAT.out]; rfl, HB8.out⟩
        case measure => simp [intOf]; omega
       ·obtain ⟨q, hkq⟩ : ∃ q, k = q + 1 := ⟨k - 1, by omega⟩
        obtain ⟨b2, off2, p, e2, hb2, hp, hd⟩ := hd_cells (HR.out.below HBR.out) (k := q) (by rw [HN.out]; omega)
        cases e2
        have HF := Lib.hid (fun W => implFollows_c width p x W (by have := sumBy_two Hd.bulk HX.out hp hkq; have := HL.out; omega))
        have HS := Lib.hid (headAt_s (width := width) HX.out hp hkq)
        have hb5 : b < w5.heap.size := by omega
        have f0 : ∀ v : Later w5, v.v.cell? ⟨b, off + q * 5, none⟩ = some (.int .i64 p.num) := fun v => (later_cell v _ _ hb5).trans hd.1
        have f1 : ∀ v : Later w5, v.v.cell? ⟨b, off + q * 5 + 1, none⟩ = some (.int .i64 p.size) := fun v => (later_cell v _ _ hb5).trans hd.2.1
        have f2 : ∀ v : Later w5, v.v.cell? ⟨b, off + q * 5 + 2, none⟩ = some (.string p.root) := fun v => (later_cell v _ _ hb5).trans hd.2.2.1
        have f3 : ∀ v : Later w5, v.v.cell? ⟨b, off + q * 5 + 3, none⟩ = some (.int .i64 p.taken) := fun v => (later_cell v _ _ hb5).trans hd.2.2.2.1
        have f4 : ∀ v : Later w5, v.v.cell? ⟨b, off + q * 5 + 4, none⟩ = some (.string p.troot) := fun v => (later_cell v _ _ hb5).trans hd.2.2.2.2
        have e0 : decide ((0 : Int) < (k : Int)) = true := decide_eq_true (by omega)
        have E1 : IntKind.i64.wrap ((k : Int) - 1) = q := by rw [IntKind.wrap_i64]; omega
        have E2 : (k : Int) - 1 = q := by omega
        have E3 : (0 : Int) ≤ (q : Int) := by omega
        have E4 : (q : Int) < (n : Int) := by omega
        clear hd hp hkq
        rcases q2 : followsM width p x with _ | _
        ·have HAT : Hid (headAt width l k = false) := Lib.hid (by rw [HS.out, q2, Bool.and_false])
         rw [q2] at HF
         clear q2
         refine wp_region_later (by kernel_rfl) (by kernel_rfl) ?_
         repeat (go_big_quiet_step ((first | with_reducible exact later_call (HO.out _) | with_reducible exact later_call (HF.out _))))
         refine wpQuiet_nil ?_
         intro w8 h8
         have HB8 : Hid (Below w.heap.size w w8) := below_then HBR.out (later_below h8) HBR.out.size
         clear h8
         clear g0 g1 g2 g3 g4 e0 f0 f1 f2 f3 f4 E1 E2 E3 E4
         go_wp2
         go_ret
         exact ⟨ret_bool (by rw [HDEF.out, headsUp_no HN.out hlt HAT.out]; simp), HB8.out⟩
        ·have HAT : Hid (headAt width l k = true) := Lib.hid (by rw [HS.out, q2, D1.out, Q1.out]; rfl)
         rw [q2] at HF
         clear q2
         refine wp_region_later (by kernel_rfl) (by kernel_rfl) ?_
         repeat (go_big_quiet_step ((first | with_reducible exact later_call (HO.out _) | with_reducible exact later_call (HF.out _))))
         refine wpQuiet_nil ?_
         intro w8 h8
         have HB8 : Hid (Below w.heap.size w w8) := below_then HBR.out (later_below h8) HBR.out.size
         clear h8
         clear g0 g1 g2 g3 g4 e0 f0 f1 f2 f3 f4 E1 E2 E3 E4
         go_wp2
         go_round
         case rel => exact ⟨k + 1, by omega, by go_num, by rw [headsUp, HUP.out, HAT.out]; rfl, HB8.out⟩
         case measure => simp [intOf]; omega
    ·obtain rfl : k = n := by omega
     have HBR := Lib.hid hbr
     go_wp2
     go_ret
     exact ⟨ret_bool (by rw [HDEF.out, H4.out, HN.out, HUP.out]; rfl), HBR.out⟩
  ·have H4 : Hid (decide (l.length ≤ 400) = false) := Lib.hid (by rw [HN.out]; exact decide_eq_false h4)
   go_wp2
   go_ret
   exact ⟨ret_bool (by rw [HDEF.out, H4.out]; rfl), Below.refl _ _⟩
set_option maxRecDepth 100000 in
set_option maxHeartbeats 4000000 in
theorem specHeadsOk_c (width : Int) (A : Option Addr) (c lo hi n : Nat) (l : List Hd) (w : World) (hr : Rd w lo hi A (hds l)) (hn : l.length = n) (hl : n + sumBy Hd.bulk l ≤ 1048576) :
  Calls Tryz.prog 64 #[.int .i64 width, .slice A n c] w fun e w' => e = .returned (.bool (headsOk width l)) ∧ Below w.heap.size w w' := by
 have HN := Lib.hid hn
 have HL := Lib.hid hl
 have HR := Lib.hid hr
 have HDEF : Hid (headsOk width l = (inR width 1 32 && decide (l.length ≤ 400) && headsUp width l l.length)) := Lib.hid rfl
 have hn2 : n ≤ 1048576 := by omega
 clear hn hl hr
 go_enter Tryz.func64, Tryz.ntmps64
 go_wp2_with fail
 refine (l02Width_c width _).mono ?_
 rintro e w1 ⟨rfl, rfl⟩
 rcases hq : inR width 1 32 with _ | _
 ·go_wp2
  go_ret
  exact ⟨ret_bool (by rw [HDEF.out, hq]; rfl), Below.refl _ _⟩
 ·rw [hq] at HDEF
  clear hq
  by_cases h4 : n ≤ 400
  ·have H4 : Hid (decide (l.length ≤ 400) = true) := Lib.hid (by rw [HN.out]; exact decide_eq_true h4)
   go_wp2
   go_loopw [5] (fun i wx => ∃ k : Nat, k ≤ n ∧ i = .int .i64 k ∧ headsUp width l k = true ∧ Below w.heap.size w wx) (fun i _ => n - (intOf i).toNat)
   case atStart => exact ⟨0, Nat.zero_le _, rfl, rfl, Below.refl _ _⟩
   case round =>
    obtain ⟨k, hk, rfl, hup, hbr⟩ := hrel
    have HUP := Lib.hid hup
    clear hup
    by_cases hlt : k < n
    ·obtain ⟨b, off, x, rfl, hb, hx, hc⟩ := hd_cells (HR.out.below hbr) (k := k) (by rw [HN.out]; exact hlt)
     have HX := Lib.hid hx
     have HBR := Lib.hid hbr
     have hbk : Hid (x.bulk ≤ 1048576) := Lib.hid (by have := sumBy_get Hd.bulk hx; have := HL.out; omega)
     have hI : (k : Int) < n := by omega
     have g0 : ∀ v : Later wr, v.v.cell? ⟨b, off + k * 5, none⟩ = some (.int .i64 x.num) := fun v => (later_cell v _ _ hb).trans hc.1
     have g1 : ∀ v : Later wr, v.v.cell? ⟨b, off + k * 5 + 1, none⟩ = some (.int .i64 x.size) := fun v => (later_cell v _ _ hb).trans hc.2.1
     have g2 : ∀ v : Later wr, v.v.cell? ⟨b, off + k * 5 + 2, none⟩ = some (.string x.root) := fun v => (later_cell v _ _ hb).trans hc.2.2.1
     have g3 : ∀ v : Later wr, v.v.cell? ⟨b, off + k * 5 + 3, none⟩ = some (.int .i64 x.taken) := fun v => (later_cell v _ _ hb).trans hc.2.2.2.1
     have g4 : ∀ v : Later wr, v.v.cell? ⟨b, off + k * 5 + 4, none⟩ = some (.string x.troot) := fun v => (later_cell v _ _ hb).trans hc.2.2.2.2
     clear hc hx hbr
     have HO := Lib.hid (fun W => specHeadOk_c width x W hbk.out)
     go_wp2_with fail
     rcases q1 : headOk width x with _ | _
     ·have HAT := Lib.hid (headAt_ok (width := width) HX.out q1)
      rw [q1] at HO
      clear q1
      refine wp_region_later (by kernel_rfl) (by kernel_rfl) ?_
      repeat (go_big_quiet_step ((with_reducible exact later_call (HO.out _))))
      refine wpQuiet_nil ?_
      intro w8 h8
      have HB8 : Hid (Below w.heap.size w w8) := below_then HBR.out (later_below h8) HBR.out.size
      clear h8
      clear g0 g1 g2 g3 g4
      go_wp2
      go_ret
      exact ⟨ret_bool (by rw [HDEF.out, headsUp_no HN.out hlt HAT.out]; simp), HB8.out⟩
     ·have Q1 := Lib.hid q1
      rw [q1] at HO
      clear q1
      rcases d1 : (x.num == (k : Int)) with _ | _
      ·have n1 := bne_of_beq d1
       have HAT := Lib.hid (headAt_num (width := width) HX.out d1)
       refine wp_region_later (by kernel_rfl) (by kernel_rfl) ?_
       repeat (go_big_quiet_step ((with_reducible exact later_call (HO.out _))))
       refine wpQuiet_nil ?_
       intro w8 h8
       have HB8 : Hid (Below w.heap.size w w8) := below_then HBR.out (later_below h8) HBR.out.size
       clear h8
       clear g0 g1 g2 g3 g4
       go_wp2
       go_ret
       exact ⟨ret_bool (by rw [HDEF.out, headsUp_no HN.out hlt HAT.out]; simp), HB8.out⟩
      ·have n1 := bne_of_beq d1
       have D1 := Lib.hid d1
       rcases (show k = 0 ∨ 0 < k by omega) with hk0 | hk0
       ·have HAT : Hid (headAt width l k = true) := Lib.hid (by subst hk0; rw [headAt_0 HX.out, D1.out, Q1.out]; rfl)
        subst hk0
        have n0 : (x.num != 0) = false := n1
        have e0 := hI
        clear n1
        simp only [Nat.zero_mul, Nat.add_zero] at g0 g1 g2 g3 g4
        refine wp_region_later (by kernel_rfl) (by kernel_rfl) ?_
        repeat (go_big_quiet_step ((with_reducible exact later_call (HO.out _))))
        refine wpQuiet_nil ?_
        intro w8 h8
        have HB8 : Hid (Below w.heap.size w w8) := below_then HBR.out (later_below h8) HBR.out.size
        clear h8
        clear g0 g1 g2 g3 g4 e0 n0
        go_wp2
        go_round
        case rel => exact ⟨0 + 1, by omega, rfl, by rw [headsUp, HUP.out, HAT.out]; rfl, HB8.out⟩
        case measure => simp [intOf]; omega
       ·obtain ⟨q, hkq⟩ : ∃ q, k = q + 1 := ⟨k - 1, by omega⟩
        obtain ⟨b2, off2, p, e2, hb2, hp, hd⟩ := hd_cells (HR.out.below HBR.out) (k := q) (by rw [HN.out]; omega)
        cases e2
        have HF := Lib.hid (fun W => specFollows_c width p x W (by have := sumBy_two Hd.bulk HX.out hp hkq; have := HL.out; omega))
        have HS := Lib.hid (headAt_s (width := width) HX.out hp hkq)
        have f0 : ∀ v : Later wr, v.v.cell? ⟨b, off + q * 5, none⟩ = some (.int .i64 p.num) := fun v => (later_cell v _ _ hb).trans hd.1
        have f1 : ∀ v : Later wr, v.v.cell? ⟨b, off + q * 5 + 1, none⟩ = some (.int .i64 p.size) := fun v => (later_cell v _ _ hb).trans hd.2.1
        have f2 : ∀ v : Later wr, v.v.cell? ⟨b, off + q * 5 + 2, none⟩ = some (.string p.root) := fun v => (later_cell v _ _ hb).trans hd.2.2.1
        have f3 : ∀ v : Later wr, v.v.cell? ⟨b, off + q * 5 + 3, none⟩ = some (.int .i64 p.taken) := fun v => (later_cell v _ _ hb).trans hd.2.2.2.1
        have f4 : ∀ v : Later wr, v.v.cell? ⟨b, off + q * 5 + 4, none⟩ = some (.string p.troot) := fun v => (later_cell v _ _ hb).trans hd.2.2.2.2
        have e0 : decide ((0 : Int) < (k : Int)) = true := decide_eq_true (by omega)
        have E1 : IntKind.i64.wrap ((k : Int) - 1) = q := by rw [IntKind.wrap_i64]; omega
        have E2 : (k : Int) - 1 = q := by omega
        have E3 : (0 : Int) ≤ (q : Int) := by omega
        have E4 : (q : Int) < (n : Int) := by omega
        clear hd hp hkq
        rcases q2 : followsM width p x with _ | _
        ·have HAT : Hid (headAt width l k = false) := Lib.hid (by rw [HS.out, q2, Bool.and_false])
         rw [q2] at HF
         clear q2
         refine wp_region_later (by kernel_rfl) (by kernel_rfl) ?_
         repeat (go_big_quiet_step ((first | with_reducible exact later_call (HO.out _) | with_reducible exact later_call (HF.out _))))
         refine wpQuiet_nil ?_
         intro w8 h8
         have HB8 : Hid (Below w.heap.size w w8) := below_then HBR.out (later_below h8) HBR.out.size
         clear h8
         clear g0 g1 g2 g3 g4 e0 f0 f1 f2 f3 f4 E1 E2 E3 E4
         go_wp2
         go_ret
         exact ⟨ret_bool (by rw [HDEF.out, headsUp_no HN.out hlt HAT.out]; simp), HB8.out⟩
        ·have HAT : Hid (headAt width l k = true) := Lib.hid (by rw [HS.out, q2, D1.out, Q1.out]; rfl)
         rw [q2] at HF
         clear q2
         refine wp_region_later (by kernel_rfl) (by kernel_rfl) ?_
         repeat (go_big_quiet_step ((first | with_reducible exact later_call (HO.out _) | with_reducible exact later_call (HF.out _))))
         refine wpQuiet_nil ?_
         intro w8 h8
         have HB8 : Hid (Below w.heap.size w w8) := below_then HBR.out (later_below h8) HBR.out.size
         clear h8
         clear g0 g1 g2 g3 g4 e0 f0 f1 f2 f3 f4 E1 E2 E3 E4
         go_wp2
         go_round
         case rel => exact ⟨k + 1, by omega, by go_num, by rw [headsUp, HUP.out, HAT.out]; rfl, HB8.out⟩
         case measure => simp [intOf]; omega
    ·obtain rfl : k = n := by omega
     have HBR := Lib.hid hbr
     go_wp2
     go_ret
     exact ⟨ret_bool (by rw [HDEF.out, H4.out, HN.out, HUP.out]; rfl), HBR.out⟩
  ·have H4 : Hid (decide (l.length ≤ 400) = false) := Lib.hid (by rw [HN.out]; exact decide_eq_false h4)
   go_wp2
   go_ret
   exact ⟨ret_bool (by rw [HDEF.out, H4.out]; rfl), Below.refl _ _⟩
end Go.Proofs.YtmmepogjocfefaaGreat

