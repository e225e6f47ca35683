/- Heads: rootOk, HeadOk, HeadNew. -/
import Derived.Test.YtojjjhbiccgjkaaLow
import Derived.Test.YtojjjhbiccgjkaaWk2
namespace Go.Proofs.Ytojjjhbiccgjkaa
set_option linter.unusedVariables false
set_option linter.unusedSimpArgs false
open Go.RowKit

def rootOkM (width size : Int) (root : ByteArray) : Bool := inR size 0 512 && decide ((root.size : Int) = width) && (decide (0 < size) || decide (root = emptyT width))
def headOk (width : Int) (h : Hd) : Bool := inR width 1 32 && inR h.num 0 399 && rootOkM width h.size h.root && rootOkM width h.taken h.troot

set_option maxRecDepth 100000 in
set_option maxHeartbeats 400000 in
theorem rootOk_c (width size : Int) (root : ByteArray) (w : World) (hr : root.size ≤ 1048576) : Calls Try.prog 110 #[.int .i64 width, .int .i64 size, .string root] w fun e w' => e = .returned (.bool (rootOkM width size root)) ∧ Below w.heap.size w w' := by
  have hr2 : (root.size : Int) ≤ 1048576 := by omega
  go_enter Try.func110, Try.ntmps110
  go_wp2_with fail
  refine (isSize_c size _).mono ?_
  rintro e w1 ⟨rfl, rfl⟩
  rcases hq : inR size 0 512 with _ | _
  · go_wp2
    go_ret
    exact ⟨ret_bool (by rw [rootOkM, hq]; rfl), Below.refl _ _⟩
  · have HQ := Lib.hid hq
    clear hq
    by_cases hl : (root.size : Int) = width
    · subst hl
      by_cases hp : 0 < size
      · go_wp2
        go_ret
        exact ⟨ret_bool (by rw [rootOkM, HQ.out]; simp [hp]), Below.refl _ _⟩
      · go_wp2_with fail
        refine (emptyRoot_c root.size _).mono ?_
        rintro e w1 ⟨rfl, hb⟩
        have HB := Lib.hid hb
        clear hb
        have hbq := beq_iff (a := root) (b := emptyT root.size)
        have HBQ := Lib.hid hbq
        clear hbq
        go_wp2
        go_ret
        exact ⟨ret_bool (by rw [rootOkM, HQ.out, HBQ.out]; simp [hp]), HB.out⟩
    · go_wp2
      go_ret
      exact ⟨ret_bool (by rw [rootOkM, HQ.out]; simp [hl]), Below.refl _ _⟩
set_option maxRecDepth 100000 in
set_option maxHeartbeats 400000 in
theorem implHeadOk_c (width : Int) (h : Hd) (w : World) (hz : h.bulk ≤ 1048576) : Calls Try.prog 34 #[.int .i64 width, .agg #[.int .i64 h.num, .int .i64 h.size, .string h.root, .int .i64 h.taken, .string h.troot]] w fun e w' => e = .returned (.bool (headOk width h)) ∧ Below w.heap.size w w' := by
  have hr1 : h.root.size ≤ 1048576 := by unfold Hd.bulk at hz; omega
  have hr2 : h.troot.size ≤ 1048576 := by unfold Hd.bulk at hz; omega
  clear hz
  have HB : Hid (Below w.heap.size w w) := Below.refl _ _
  go_enter Try.func34, Try.ntmps34
  go_wp2_with fail
  refine calls_named (fun w1 hw => ?_)
  have hz1 : w.heap.size + 1 ≤ w1.heap.size := by rw [hw]; first | omega | (simp [World.setCell]; done) | (simp [World.setCell]; omega)
  have hzz1 : w.heap.size ≤ w1.heap.size := by omega
  replace HB : Hid (Below w.heap.size w w1) := by rw [Hid, hw]; exact (by ((repeat (first | ((with_reducible refine Below.alloc ?_ ?_ _); rotate_left 1; (focus (first | omega | (simp; done) | (simp; omega)))) | (with_reducible refine Below.drew ?_) | ((with_reducible refine Below.setCell ?_ ?_ _); rotate_left 1; (focus (first | omega | (simp; done) | (simp; omega)))))); exact HB.out))
  have HXh : Hid (NewBox w1 (w.heap.size) [.int .i64 h.num, .int .i64 h.size, .string h.root, .int .i64 h.taken, .string h.troot]) := by rw [Hid, hw]; exact ⟨by first | omega | (simp [World.setCell]; done) | (simp [World.setCell]; omega), fun o => by rcases o with _ | _ | _ | _ | _ | o <;> go_simp, fun o => by go_simp⟩
  have hxh := HXh.out.2.1
  have hfh := HXh.out.2.2
  have hkh := HXh.out.1
  clear hw
  refine (isWidth_c width _).mono ?_
  rintro e w2_ ⟨rfl, rfl⟩
  rcases hq1 : inR width 1 32 with _ | _
  · go_wp2
    go_ret
    exact ⟨ret_bool (by rw [headOk, hq1]; rfl), HB.out⟩
  · have HQ1 := Lib.hid hq1
    clear hq1
    go_wp2_with fail
    refine (inRange_c h.num 0 399 _).mono ?_
    rintro e w3_ ⟨rfl, rfl⟩
    rcases hq2 : inR h.num 0 399 with _ | _
    · go_wp2
      go_ret
      exact ⟨ret_bool (by rw [headOk, HQ1.out, hq2]; rfl), HB.out⟩
    · have HQ2 := Lib.hid hq2
      clear hq2
      go_wp2_with fail
      refine calls_named (fun w4 hw => ?_)
      have hz4 : w1.heap.size + 0 ≤ w4.heap.size := by rw [hw]; first | omega | (simp [World.setCell]; done) | (simp [World.setCell]; omega)
      have hzz4 : w.heap.size ≤ w4.heap.size := by omega
      replace HB : Hid (Below w.heap.size w w4) := by rw [Hid, hw]; exact (by ((repeat (first | ((with_reducible refine Below.alloc ?_ ?_ _); rotate_left 1; (focus (first | omega | (simp; done) | (simp; omega)))) | (with_reducible refine Below.drew ?_) | ((with_reducible refine Below.setCell ?_ ?_ _); rotate_left 1; (focus (first | omega | (simp; done) | (simp; omega)))))); exact HB.out))
      replace HXh : Hid (NewBox w4 (w.heap.size) [.int .i64 h.num, .int .i64 h.size, .string h.root, .int .i64 h.taken, .string h.troot]) := by rw [Hid, hw]; (repeat (first | (with_reducible refine NewBox.alloc ?_ _) | (with_reducible refine NewBox.drew ?_) | ((with_reducible refine NewBox.setCell ?_ ?_ _); rotate_left 1; (focus (first | omega | (simp; done) | (simp; omega)))))); exact HXh.out
      clear hxh hfh hkh
      have hxh := HXh.out.2.1
      have hfh := HXh.out.2.2
      have hkh := HXh.out.1
      clear hw
      refine (rootOk_c width h.size h.root _ hr1).mono ?_
      rintro e w5 ⟨rfl, hb⟩
      have hzw5 : w4.heap.size ≤ w5.heap.size := hb.size
      have hzzw5 : w.heap.size ≤ w5.heap.size := by omega
      replace HB : Hid (Below w.heap.size w w5) := below_then HB.out hb HB.out.size
      replace HXh : Hid (NewBox w5 (w.heap.size) [.int .i64 h.num, .int .i64 h.size, .string h.root, .int .i64 h.taken, .string h.troot]) := HXh.out.below hb
      clear hxh hfh hkh
      have hxh := HXh.out.2.1
      have hfh := HXh.out.2.2
      have hkh := HXh.out.1
      clear hb
      rcases hq3 : rootOkM width h.size h.root with _ | _
      · go_wp2
        go_ret
        exact ⟨ret_bool (by rw [headOk, HQ1.out, HQ2.out, hq3]; rfl), HB.out⟩
      · have HQ3 := Lib.hid hq3
        clear hq3
        go_wp2_with fail
        refine calls_named (fun w6 hw => ?_)
        have hz6 : w5.heap.size + 0 ≤ w6.heap.size := by rw [hw]; first | omega | (simp [World.setCell]; done) | (simp [World.setCell]; omega)
        have hzz6 : w.heap.size ≤ w6.heap.size := by omega
        replace HB : Hid (Below w.heap.size w w6) := by rw [Hid, hw]; exact (by ((repeat (first | ((with_reducible refine Below.alloc ?_ ?_ _); rotate_left 1; (focus (first | omega | (simp; done) | (simp; omega)))) | (with_reducible refine Below.drew ?_) | ((with_reducible refine Below.setCell ?_ ?_ _); rotate_left 1; (focus (first | omega | (simp; done) | (simp; omega)))))); exact HB.out))
        replace HXh : Hid (NewBox w6 (w.heap.size) [.int .i64 h.num, .int .i64 h.size, .string h.root, .int .i64 h.taken, .string h.troot]) := by rw [Hid, hw]; (repeat (first | (with_reducible refine NewBox.alloc ?_ _) | (with_reducible refine NewBox.drew ?_) | ((with_reducible refine NewBox.setCell ?_ ?_ _); rotate_left 1; (focus (first | omega | (simp; done) | (simp; omega)))))); exact HXh.out
        clear hxh hfh hkh
        have hxh := HXh.out.2.1
        have hfh := HXh.out.2.2
        have hkh := HXh.out.1
        clear hw
        refine (rootOk_c width h.taken h.troot _ hr2).mono ?_
        rintro e w7 ⟨rfl, hb⟩
        have hzw7 : w6.heap.size ≤ w7.heap.size := hb.size
        have hzzw7 : w.heap.size ≤ w7.heap.size := by omega
        replace HB : Hid (Below w.heap.size w w7) := below_then HB.out hb HB.out.size
        replace HXh : Hid (NewBox w7 (w.heap.size) [.int .i64 h.num, .int .i64 h.size, .string h.root, .int .i64 h.taken, .string h.troot]) := HXh.out.below hb
        clear hxh hfh hkh
        have hxh := HXh.out.2.1
        have hfh := HXh.out.2.2
        have hkh := HXh.out.1
        clear hb
        generalize hq4 : rootOkM width h.taken h.troot = q4 at *
        have HQ4 := Lib.hid hq4
        clear hq4
        go_wp2
        go_ret
        exact ⟨ret_bool (by rw [headOk, HQ1.out, HQ2.out, HQ3.out, HQ4.out]; rfl), HB.out⟩
set_option maxRecDepth 100000 in
set_option maxHeartbeats 400000 in
theorem specHeadOk_c (width : Int) (h : Hd) (w : World) (hz : h.bulk ≤ 1048576) : Calls Try.prog 32 #[.int .i64 width, .agg #[.int .i64 h.num, .int .i64 h.size, .string h.root, .int .i64 h.taken, .string h.troot]] w fun e w' => e = .returned (.bool (headOk width h)) ∧ Below w.heap.size w w' := by
  have hr1 : h.root.size ≤ 1048576 := by unfold Hd.bulk at hz; omega
  have hr2 : h.troot.size ≤ 1048576 := by unfold Hd.bulk at hz; omega
  clear hz
  have hbq := beq_iff (a := h.root) (b := emptyT width)
  have HBQ := Lib.hid hbq
  have hbt := beq_iff (a := h.troot) (b := emptyT width)
  have HBT := Lib.hid hbt
  clear hbq hbt
  have HE := Lib.hid (fun W => specEmptyRoot_c width W)
  have HK : Hid (headOk width h = (inR width 1 32 && inR h.num 0 399 && (inR h.size 0 512 && decide ((h.root.size : Int) = width) && (decide (0 < h.size) || decide (h.root = emptyT width))) && (inR h.taken 0 512 && decide ((h.troot.size : Int) = width) && (decide (0 < h.taken) || decide (h.troot = emptyT width))))) := Lib.hid rfl
  generalize headOk width h = hk at *
  generalize emptyT width = em at *
  generalize inR width 1 32 = q1 at *
  have HB : Hid (Below w.heap.size w w) := Below.refl _ _
  go_enter Try.func32, Try.ntmps32
  go_wp2_with fail
  refine calls_named (fun w1 hw => ?_)
  have hz1 : w.heap.size + 1 ≤ w1.heap.size := by rw [hw]; first | omega | (simp [World.setCell]; done) | (simp [World.setCell]; omega)
  have hzz1 : w.heap.size ≤ w1.heap.size := by omega
  replace HB : Hid (Below w.heap.size w w1) := by rw [Hid, hw]; exact (by ((repeat (first | ((with_reducible refine Below.alloc ?_ ?_ _); rotate_left 1; (focus (first | omega | (simp; done) | (simp; omega)))) | (with_reducible refine Below.drew ?_) | ((with_reducible refine Below.setCell ?_ ?_ _); rotate_left 1; (focus (first | omega | (simp; done) | (simp; omega)))))); exact HB.out))
  have HXh : Hid (NewBox w1 (w.heap.size) [.int .i64 h.num, .int .i64 h.size, .string h.root, .int .i64 h.taken, .string h.troot]) := by rw [Hid, hw]; exact ⟨by first | omega | (simp [World.setCell]; done) | (simp [World.setCell]; omega), fun o => by rcases o with _ | _ | _ | _ | _ | o <;> go_simp, fun o => by go_simp⟩
  have hxh := HXh.out.2.1
  have hfh := HXh.out.2.2
  have hkh := HXh.out.1
  clear hw
  refine (HE.out _).mono ?_
  rintro e w2 ⟨rfl, hb⟩
  have hzw2 : w1.heap.size ≤ w2.heap.size := hb.size
  have hzzw2 : w.heap.size ≤ w2.heap.size := by omega
  replace HB : Hid (Below w.heap.size w w2) := below_then HB.out hb HB.out.size
  replace HXh : Hid (NewBox w2 (w.heap.size) [.int .i64 h.num, .int .i64 h.size, .string h.root, .int .i64 h.taken, .string h.troot]) := HXh.out.below hb
  clear hxh hfh hkh
  have hxh := HXh.out.2.1
  have hfh := HXh.out.2.2
  have hkh := HXh.out.1
  clear hb
  rcases q1 with _ | _
  · go_wp2
    go_ret
    exact ⟨ret_bool (by rw [HK.out]; rfl), HB.out⟩
  · go_wp2_with fail
    refine (l01In_c h.num 0 399 _).mono ?_
    rintro e w3_ ⟨rfl, rfl⟩
    generalize inR h.num 0 399 = q2 at *
    rcases q2 with _ | _
    · go_wp2
      go_ret
      exact ⟨ret_bool (by rw [HK.out]; rfl), HB.out⟩
    · go_wp2_with fail
      refine (l04Size_c h.size _).mono ?_
      rintro e w4_ ⟨rfl, rfl⟩
      generalize inR h.size 0 512 = q3 at *
      rcases q3 with _ | _
      · go_wp2
        go_ret
        exact ⟨ret_bool (by rw [HK.out]; rfl), HB.out⟩
      · go_wp2_with fail
        refine (l04Size_c h.taken _).mono ?_
        rintro e w5_ ⟨rfl, rfl⟩
        generalize inR h.taken 0 512 = q4 at *
        rcases q4 with _ | _
        · go_wp2
          go_ret
          exact ⟨ret_bool (by rw [HK.out]; simp), HB.out⟩
        · by_cases hl : (h.root.size : Int) = width
          · by_cases hl2 : (h.troot.size : Int) = width
            · have HL := Lib.hid hl
              have hd1 : ((h.root.size : Int) != width) = false := by simp [hl]
              have hd2 : ((h.troot.size : Int) != width) = false := by simp [hl2]
              have HL2 := Lib.hid hl2
              clear hl hl2
              rcases Decidable.em (0 < h.size) with hp1 | hp1 <;> have HP1 := Lib.hid hp1
              · rcases Decidable.em (0 < h.taken) with hp2 | hp2 <;> have HP2 := Lib.hid hp2
                · go_wp2
                  go_ret
                  exact ⟨ret_bool (by rw [HK.out]; simp [HL.out, HL2.out, HP1.out, HP2.out]), HB.out⟩
                · go_wp2
                  go_ret
                  exact ⟨ret_bool (by rw [HK.out, HBT.out]; simp [HL.out, HL2.out, HP1.out, HP2.out]), HB.out⟩
              · rcases Decidable.em (0 < h.taken) with hp2 | hp2 <;> have HP2 := Lib.hid hp2
                · rcases hc : (h.root.toList == em.toList) with _ | _
                  all_goals
                    have HC := Lib.hid (HBQ.out.symm.trans hc)
                    go_wp2
                    go_ret
                    exact ⟨ret_bool (by rw [HK.out, HC.out]; simp [HL.out, HL2.out, HP1.out, HP2.out]), HB.out⟩
                · rcases hc : (h.root.toList == em.toList) with _ | _
                  all_goals
                    have HC := Lib.hid (HBQ.out.symm.trans hc)
                    go_wp2
                    go_ret
                    exact ⟨ret_bool (by have n1 : ¬ 0 < h.size := by have := HP1.out; omega
                                        have n2 : ¬ 0 < h.taken := by have := HP2.out; omega
                                        rw [HK.out, HC.out]; first | (rw [HBT.out]; simp [HL.out, HL2.out, n1, n2]) | simp [HL.out, HL2.out, n1, n2]), HB.out⟩
            · have HL := Lib.hid hl
              have hd1 : ((h.root.size : Int) != width) = false := by simp [hl]
              have hd2 : ((h.troot.size : Int) != width) = true := by simp [hl2]
              clear hl
              go_wp2
              go_ret
              exact ⟨ret_bool (by rw [HK.out]; simp [hl2]), HB.out⟩
          · have hd1 : ((h.root.size : Int) != width) = true := by simp [hl]
            go_wp2
            go_ret
            exact ⟨ret_bool (by rw [HK.out]; simp [hl]), HB.out⟩
def headNew (width : Int) : Hd := ⟨0, 0, emptyT width, 0, emptyT width⟩
set_option maxRecDepth 100000 in
set_option maxHeartbeats 400000 in
theorem implHeadNew_c (width : Int) (w : World) : Calls Try.prog 29 #[.int .i64 width] w fun e w' => e = .returned (.tuple #[.agg #[.int .i64 0, .int .i64 0, .string (emptyT width), .int .i64 0, .string (emptyT width)], .bool (inR width 1 32)]) ∧ Below w.heap.size w w' := by
  have HN := Lib.hid (fun h => emptyT_no (width := width) h)
  have HE := Lib.hid (fun W => emptyRoot_c width W)
  have HW := Lib.hid (fun W => isWidth_c width W)
  generalize emptyT width = em at *
  generalize inR width 1 32 = q1 at *
  have HB : Hid (Below w.heap.size w w) := Below.refl _ _
  go_enter Try.func29, Try.ntmps29
  go_wp2_with fail
  refine calls_named (fun w1 hw => ?_)
  have hz1 : w.heap.size + 1 ≤ w1.heap.size := by rw [hw]; first | omega | (simp [World.setCell]; done) | (simp [World.setCell]; omega)
  have hzz1 : w.heap.size ≤ w1.heap.size := by omega
  replace HB : Hid (Below w.heap.size w w1) := by rw [Hid, hw]; exact (by ((repeat (first | ((with_reducible refine Below.alloc ?_ ?_ _); rotate_left 1; (focus (first | omega | (simp; done) | (simp; omega)))) | (with_reducible refine Below.drew ?_) | ((with_reducible refine Below.setCell ?_ ?_ _); rotate_left 1; (focus (first | omega | (simp; done) | (simp; omega)))))); exact HB.out))
  have HXr : Hid (NewBox w1 (w.heap.size) [.int .i64 0, .int .i64 0, .string ⟨#[]⟩, .int .i64 0, .string ⟨#[]⟩]) := by rw [Hid, hw]; exact ⟨by first | omega | (simp [World.setCell]; done) | (simp [World.setCell]; omega), fun o => by rcases o with _ | _ | _ | _ | _ | o <;> go_simp, fun o => by go_simp⟩
  have hxr := HXr.out.2.1
  have hfr := HXr.out.2.2
  have hkr := HXr.out.1
  clear hw
  refine (HW.out _).mono ?_
  rintro e w2_ ⟨rfl, rfl⟩
  rcases q1 with _ | _
  · obtain rfl := HN.out rfl
    go_wp2
    refine bodyPost_named (fun w3 hw => ?_)
    have hz3 : w1.heap.size + 0 ≤ w3.heap.size := by rw [hw]; first | omega | (simp [World.setCell]; done) | (simp [World.setCell]; omega)
    have hzz3 : w.heap.size ≤ w3.heap.size := by omega
    replace HB : Hid (Below w.heap.size w w3) := by rw [Hid, hw]; exact (by ((repeat (first | ((with_reducible refine Below.alloc ?_ ?_ _); rotate_left 1; (focus (first | omega | (simp; done) | (simp; omega)))) | (with_reducible refine Below.drew ?_) | ((with_reducible refine Below.setCell ?_ ?_ _); rotate_left 1; (focus (first | omega | (simp; done) | (simp; omega)))))); exact HB.out))
    replace HXr : Hid (NewBox w3 (w.heap.size) [.int .i64 0, .int .i64 0, .string ⟨#[]⟩, .int .i64 0, .string ⟨#[]⟩]) := by rw [Hid, hw]; apply NewBox.cast; (focus ((repeat (first | (with_reducible apply NewBox.alloc) | (with_reducible apply NewBox.drew) | (with_reducible apply NewBox.set1) | ((with_reducible apply NewBox.far); (focus (first | omega | (simp; done) | (simp; omega)))))); exact HXr.out)); rfl
    clear hxr hfr hkr
    have hxr := HXr.out.2.1
    have hfr := HXr.out.2.2
    have hkr := HXr.out.1
    clear hw
    refine bodyPost_ret (v := .tuple #[.agg #[.int .i64 0, .int .i64 0, .string ⟨#[]⟩, .int .i64 0, .string ⟨#[]⟩], .bool false]) (by simp [results, Try.results29, go_sem, hxr]) rfl ?_
    exact ⟨rfl, HB.out⟩
  · go_wp2_with fail
    refine calls_named (fun w3 hw => ?_)
    have hz3 : w1.heap.size + 0 ≤ w3.heap.size := by rw [hw]; first | omega | (simp [World.setCell]; done) | (simp [World.setCell]; omega)
    have hzz3 : w.heap.size ≤ w3.heap.size := by omega
    replace HB : Hid (Below w.heap.size w w3) := by rw [Hid, hw]; exact (by ((repeat (first | ((with_reducible refine Below.alloc ?_ ?_ _); rotate_left 1; (focus (first | omega | (simp; done) | (simp; omega)))) | (with_reducible refine Below.drew ?_) | ((with_reducible refine Below.setCell ?_ ?_ _); rotate_left 1; (focus (first | omega | (simp; done) | (simp; omega)))))); exact HB.out))
    replace HXr : Hid (NewBox w3 (w.heap.size) [.int .i64 0, .int .i64 0, .string ⟨#[]⟩, .int .i64 0, .string ⟨#[]⟩]) := by rw [Hid, hw]; (repeat (first | (with_reducible refine NewBox.alloc ?_ _) | (with_reducible refine NewBox.drew ?_) | ((with_reducible refine NewBox.setCell ?_ ?_ _); rotate_left 1; (focus (first | omega | (simp; done) | (simp; omega)))))); exact HXr.out
    clear hxr hfr hkr
    have hxr := HXr.out.2.1
    have hfr := HXr.out.2.2
    have hkr := HXr.out.1
    clear hw
    refine (HE.out _).mono ?_
    rintro e w4 ⟨rfl, hb⟩
    have hzw4 : w3.heap.size ≤ w4.heap.size := hb.size
    have hzzw4 : w.heap.size ≤ w4.heap.size := by omega
    replace HB : Hid (Below w.heap.size w w4) := below_then HB.out hb HB.out.size
    replace HXr : Hid (NewBox w4 (w.heap.size) [.int .i64 0, .int .i64 0, .string ⟨#[]⟩, .int .i64 0, .string ⟨#[]⟩]) := HXr.out.below hb
    clear hxr hfr hkr
    have hxr := HXr.out.2.1
    have hfr := HXr.out.2.2
    have hkr := HXr.out.1
    clear hb
    go_wp2
    refine bodyPost_named (fun w5 hw => ?_)
    have hz5 : w4.heap.size + 0 ≤ w5.heap.size := by rw [hw]; first | omega | (simp [World.setCell]; done) | (simp [World.setCell]; omega)
    have hzz5 : w.heap.size ≤ w5.heap.size := by omega
    replace HB : Hid (Below w.heap.size w w5) := by rw [Hid, hw]; exact (by ((repeat (first | ((with_reducible refine Below.alloc ?_ ?_ _); rotate_left 1; (focus (first | omega | (simp; done) | (simp; omega)))) | (with_reducible refine Below.drew ?_) | ((with_reducible refine Below.setCell ?_ ?_ _); rotate_left 1; (focus (first | omega | (simp; done) | (simp; omega)))))); exact HB.out))
    replace HXr : Hid (NewBox w5 (w.heap.size) [.int .i64 0, .int .i64 0, .string em, .int .i64 0, .string em]) := by rw [Hid, hw]; apply NewBox.cast; (focus ((repeat (first | (with_reducible apply NewBox.alloc) | (with_reducible apply NewBox.drew) | (with_reducible apply NewBox.set1) | ((with_reducible apply NewBox.far); (focus (first | omega | (simp; done) | (simp; omega)))))); exact HXr.out)); rfl
    clear hxr hfr hkr
    have hxr := HXr.out.2.1
    have hfr := HXr.out.2.2
    have hkr := HXr.out.1
    clear hw
    refine bodyPost_ret (v := .tuple #[.agg #[.int .i64 0, .int .i64 0, .string em, .int .i64 0, .string em], .bool true]) (by simp [results, Try.results29, go_sem, hxr]) rfl ?_
    exact ⟨rfl, HB.out⟩
set_option maxRecDepth 100000 in
set_option maxHeartbeats 400000 in
theorem specHeadNew_c (width : Int) (w : World) : Calls Try.prog 28 #[.int .i64 width] w fun e w' => e = .returned (.tuple #[.agg #[.int .i64 0, .int .i64 0, .string (emptyT width), .int .i64 0, .string (emptyT width)], .bool (inR width 1 32)]) ∧ Below w.heap.size w w' := by
  have HN := Lib.hid (fun h => emptyT_no (width := width) h)
  have HE := Lib.hid (fun W => specEmptyRoot_c width W)
  generalize emptyT width = em at *
  generalize inR width 1 32 = q1 at *
  have HB : Hid (Below w.heap.size w w) := Below.refl _ _
  go_enter Try.func28, Try.ntmps28
  go_wp2_with fail
  refine calls_named (fun w1 hw => ?_)
  have hz1 : w.heap.size + 1 ≤ w1.heap.size := by rw [hw]; first | omega | (simp [World.setCell]; done) | (simp [World.setCell]; omega)
  have hzz1 : w.heap.size ≤ w1.heap.size := by omega
  replace HB : Hid (Below w.heap.size w w1) := by rw [Hid, hw]; exact (by ((repeat (first | ((with_reducible refine Below.alloc ?_ ?_ _); rotate_left 1; (focus (first | omega | (simp; done) | (simp; omega)))) | (with_reducible refine Below.drew ?_) | ((with_reducible refine Below.setCell ?_ ?_ _); rotate_left 1; (focus (first | omega | (simp; done) | (simp; omega)))))); exact HB.out))
  have HXr : Hid (NewBox w1 (w.heap.size) [.int .i64 0, .int .i64 0, .string ⟨#[]⟩, .int .i64 0, .string ⟨#[]⟩]) := by rw [Hid, hw]; exact ⟨by first | omega | (simp [World.setCell]; done) | (simp [World.setCell]; omega), fun o => by rcases o with _ | _ | _ | _ | _ | o <;> go_simp, fun o => by go_simp⟩
  have hxr := HXr.out.2.1
  have hfr := HXr.out.2.2
  have hkr := HXr.out.1
  clear hw
  refine (HE.out _).mono ?_
  rintro e w2 ⟨rfl, hb⟩
  have hzw2 : w1.heap.size ≤ w2.heap.size := hb.size
  have hzzw2 : w.heap.size ≤ w2.heap.size := by omega
  replace HB : Hid (Below w.heap.size w w2) := below_then HB.out hb HB.out.size
  replace HXr : Hid (NewBox w2 (w.heap.size) [.int .i64 0, .int .i64 0, .string ⟨#[]⟩, .int .i64 0, .string ⟨#[]⟩]) := HXr.out.below hb
  clear hxr hfr hkr
  have hxr := HXr.out.2.1
  have hfr := HXr.out.2.2
  have hkr := HXr.out.1
  clear hb
  rcases q1 with _ | _
  · obtain rfl := HN.out rfl
    go_wp2
    refine bodyPost_named (fun w3 hw => ?_)
    have hz3 : w2.heap.size + 0 ≤ w3.heap.size := by rw [hw]; first | omega | (simp [World.setCell]; done) | (simp [World.setCell]; omega)
    have hzz3 : w.heap.size ≤ w3.heap.size := by omega
    replace HB : Hid (Below w.heap.size w w3) := by rw [Hid, hw]; exact (by ((repeat (first | ((with_reducible refine Below.alloc ?_ ?_ _); rotate_left 1; (focus (first | omega | (simp; done) | (simp; omega)))) | (with_reducible refine Below.drew ?_) | ((with_reducible refine Below.setCell ?_ ?_ _); rotate_left 1; (focus (first | omega | (simp; done) | (simp; omega)))))); exact HB.out))
    replace HXr : Hid (NewBox w3 (w.heap.size) [.int .i64 0, .int .i64 0, .string ⟨#[]⟩, .int .i64 0, .string ⟨#[]⟩]) := by rw [Hid, hw]; apply NewBox.cast; (focus ((repeat (first | (with_reducible apply NewBox.alloc) | (with_reducible apply NewBox.drew) | (with_reducible apply NewBox.set1) | ((with_reducible apply NewBox.far); (focus (first | omega | (simp; done) | (simp; omega)))))); exact HXr.out)); rfl
    clear hxr hfr hkr
    have hxr := HXr.out.2.1
    have hfr := HXr.out.2.2
    have hkr := HXr.out.1
    clear hw
    refine bodyPost_ret (v := .tuple #[.agg #[.int .i64 0, .int .i64 0, .string ⟨#[]⟩, .int .i64 0, .string ⟨#[]⟩], .bool false]) (by simp [results, Try.results28, go_sem, hxr]) rfl ?_
    exact ⟨rfl, HB.out⟩
  · skip
    go_wp2
    refine bodyPost_named (fun w3 hw => ?_)
    have hz3 : w2.heap.size + 0 ≤ w3.heap.size := by rw [hw]; first | omega | (simp [World.setCell]; done) | (simp [World.setCell]; omega)
    have hzz3 : w.heap.size ≤ w3.heap.size := by omega
    replace HB : Hid (Below w.heap.size w w3) := by rw [Hid, hw]; exact (by ((repeat (first | ((with_reducible refine Below.alloc ?_ ?_ _); rotate_left 1; (focus (first | omega | (simp; done) | (simp; omega)))) | (with_reducible refine Below.drew ?_) | ((with_reducible refine Below.setCell ?_ ?_ _); rotate_left 1; (focus (first | omega | (simp; done) | (simp; omega)))))); exact HB.out))
    replace HXr : Hid (NewBox w3 (w.heap.size) [.int .i64 0, .int .i64 0, .string em, .int .i64 0, .string em]) := by rw [Hid, hw]; apply NewBox.cast; (focus ((repeat (first | (with_reducible apply NewBox.alloc) | (with_reducible apply NewBox.drew) | (with_reducible apply NewBox.set1) | ((with_reducible apply NewBox.far); (focus (first | omega | (simp; done) | (simp; omega)))))); exact HXr.out)); rfl
    clear hxr hfr hkr
    have hxr := HXr.out.2.1
    have hfr := HXr.out.2.2
    have hkr := HXr.out.1
    clear hw
    refine bodyPost_ret (v := .tuple #[.agg #[.int .i64 0, .int .i64 0, .string em, .int .i64 0, .string em], .bool true]) (by simp [results, Try.results28, go_sem, hxr]) rfl ?_
    exact ⟨rfl, HB.out⟩
end Go.Proofs.Ytojjjhbiccgjkaa
