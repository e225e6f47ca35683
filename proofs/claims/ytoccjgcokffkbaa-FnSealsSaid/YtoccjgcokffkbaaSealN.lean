/- SealNew, BrokerNew. -/
import Derived.Test.YtoccjgcokffkbaaHds4
namespace Go.Proofs.Ytoccjgcokffkbaa
set_option linter.unusedVariables false
set_option linter.unusedSimpArgs false
open Go.RowKit

set_option maxRecDepth 100000 in
set_option maxHeartbeats 4000000 in
theorem specSealNew_c (width : Int) (w : World) : Calls Try.prog 24 #[.int .i64 width] w fun e w' => e = .returned (.tuple #[.agg #[.int .i64 0, .slice none 0 0, .int .i64 0, .slice none 0 0, .int .i64 0, .int .i64 0, .string (emptyT width), .int .i64 0, .string (emptyT width)], .bool (inR width 1 32)]) ∧ Below w.heap.size w w' := by
 have HN := Lib.hid (fun h => emptyT_no (width := width) h)
 have HE := Lib.hid (fun W => specHeadNew_c width W)
 generalize emptyT width = em at *
 generalize inR width 1 32 = q1 at *
 have HB : Hid (Below w.heap.size w w) := Below.refl _ _
 go_enter Try.func24, Try.ntmps24
 go_wp2_with fail
 refine calls_named (fun w1 hw => ?_)
 have hz1 : w.heap.size + 1 ≤ w1.heap.size := by rw [hw]; first | omega | (simp [World.setCell]; done) | (simp [World.setCell]; omega)
 have hzz1 : w.heap.size ≤ w1.heap.size := by omega
 have hbn : Below w.heap.size w w1 := by rw [hw]; exact (by ((repeat (first | ((with_reducible refine Below.alloc ?_ ?_ _); rotate_left 1; (focus (first | omega | (simp; done) | (simp; omega)))) | (with_reducible refine Below.drew ?_) | ((with_reducible refine Below.setCell ?_ ?_ _); rotate_left 1; (focus (first | omega | (simp; done) | (simp; omega)))))); exact Below.refl _ _))
 replace HB := Lib.hid (below_then HB.out hbn HB.out.size)
 clear hbn
 have HXr : Hid (NewBox w1 (w.heap.size) [.int .i64 0, .slice none 0 0, .int .i64 0, .slice none 0 0, .int .i64 0, .int .i64 0, .string ⟨#[]⟩, .int .i64 0, .string ⟨#[]⟩]) := by rw [Hid, hw]; exact ⟨by first | omega | (simp [World.setCell]; done) | (simp [World.setCell]; omega), fun o => by rcases o with _ | _ | _ | _ | _ | _ | _ | _ | _ | o <;> go_simp, fun o => by go_simp⟩
 have hxr := HXr.out.2.1
 have hfr := HXr.out.2.2
 have hkr := HXr.out.1
 clear hw
 refine (HE.out _).mono ?_
 rintro e w2 ⟨rfl, hb⟩
 have hzw2 : w1.heap.size ≤ w2.heap.size := hb.size
 have hzzw2 : w.heap.size ≤ w2.heap.size := by omega
 replace HB := Lib.hid (below_then HB.out hb HB.out.size)
 replace HXr := Lib.hid (HXr.out.below hb)
 clear hxr hfr hkr
 have hxr := HXr.out.2.1
 have hfr := HXr.out.2.2
 have hkr := HXr.out.1
 clear hb
 rcases q1 with _ | _
 ·obtain rfl := HN.out rfl
  go_wp2
  refine bodyPost_named (fun w3 hw => ?_)
  have hz3 : w2.heap.size + 1 ≤ w3.heap.size := by rw [hw]; first | omega | (simp [World.setCell]; done) | (simp [World.setCell]; omega)
  have hzz3 : w.heap.size ≤ w3.heap.size := by omega
  replace HB : Hid (Below w.heap.size w w3) := by rw [Hid, hw]; exact (by ((repeat (first | ((with_reducible refine Below.alloc ?_ ?_ _); rotate_left 1; (focus (first | omega | (simp; done) | (simp; omega)))) | (with_reducible refine Below.drew ?_) | ((with_reducible refine Below.setCell ?_ ?_ _); rotate_left 1; (focus (first | omega | (simp; done) | (simp; omega)))))); exact HB.out))
  replace HXr : Hid (NewBox w3 (w.heap.size) [.int .i64 0, .slice none 0 0, .int .i64 0, .slice none 0 0, .int .i64 0, .int .i64 0, .string ⟨#[]⟩, .int .i64 0, .string ⟨#[]⟩]) := by rw [Hid, hw]; apply NewBox.cast; (focus ((repeat (first | (with_reducible apply NewBox.alloc) | (with_reducible apply NewBox.drew) | (with_reducible apply NewBox.set1) | ((with_reducible apply NewBox.far); (focus (first | omega | (simp; done) | (simp; omega)))))); exact HXr.out)); rfl
  clear hxr hfr hkr
  have hxr := HXr.out.2.1
  have hfr := HXr.out.2.2
  have hkr := HXr.out.1
  have HXh : Hid (NewBox w3 (w2.heap.size) [.int .i64 0, .int .i64 0, .string ⟨#[]⟩, .int .i64 0, .string ⟨#[]⟩]) := by rw [Hid, hw]; exact ⟨by first | omega | (simp [World.setCell]; done) | (simp [World.setCell]; omega), fun o => by rcases o with _ | _ | _ | _ | _ | o <;> go_simp, fun o => by go_simp⟩
  have hxh := HXh.out.2.1
  have hfh := HXh.out.2.2
  have hkh := HXh.out.1
  clear hw
  refine bodyPost_ret (v := .tuple #[.agg #[.int .i64 0, .slice none 0 0, .int .i64 0, .slice none 0 0, .int .i64 0, .int .i64 0, .string ⟨#[]⟩, .int .i64 0, .string ⟨#[]⟩], .bool false]) (by simp [results, Try.results24, go_sem, hxr]) rfl ?_
  exact ⟨rfl, HB.out⟩
 ·skip
  go_wp2
  refine bodyPost_named (fun w3 hw => ?_)
  have hz3 : w2.heap.size + 1 ≤ w3.heap.size := by rw [hw]; first | omega | (simp [World.setCell]; done) | (simp [World.setCell]; omega)
  have hzz3 : w.heap.size ≤ w3.heap.size := by omega
  replace HB : Hid (Below w.heap.size w w3) := by rw [Hid, hw]; exact (by ((repeat (first | ((with_reducible refine Below.alloc ?_ ?_ _); rotate_left 1; (focus (first | omega | (simp; done) | (simp; omega)))) | (with_reducible refine Below.drew ?_) | ((with_reducible refine Below.setCell ?_ ?_ _); rotate_left 1; (focus (first | omega | (simp; done) | (simp; omega)))))); exact HB.out))
  replace HXr : Hid (NewBox w3 (w.heap.size) [.int .i64 0, .slice none 0 0, .int .i64 0, .slice none 0 0, .int .i64 0, .int .i64 0, .string em, .int .i64 0, .string em]) := by rw [Hid, hw]; apply NewBox.cast; (focus ((repeat (first | (with_reducible apply NewBox.alloc) | (with_reducible apply NewBox.drew) | (with_reducible apply NewBox.set1) | ((with_reducible apply NewBox.far); (focus (first | omega | (simp; done) | (simp; omega)))))); exact HXr.out)); rfl
  clear hxr hfr hkr
  have hxr := HXr.out.2.1
  have hfr := HXr.out.2.2
  have hkr := HXr.out.1
  have HXh : Hid (NewBox w3 (w2.heap.size) [.int .i64 0, .int .i64 0, .string em, .int .i64 0, .string em]) := by rw [Hid, hw]; exact ⟨by first | omega | (simp [World.setCell]; done) | (simp [World.setCell]; omega), fun o => by rcases o with _ | _ | _ | _ | _ | o <;> go_simp, fun o => by go_simp⟩
  have hxh := HXh.out.2.1
  have hfh := HXh.out.2.2
  have hkh := HXh.out.1
  clear hw
  refine bodyPost_ret (v := .tuple #[.agg #[.int .i64 0, .slice none 0 0, .int .i64 0, .slice none 0 0, .int .i64 0, .int .i64 0, .string em, .int .i64 0, .string em], .bool true]) (by simp [results, Try.results24, go_sem, hxr]) rfl ?_
  exact ⟨rfl, HB.out⟩
def brW (width : Int) : Int := if inR width 1 32 = true then width else 0
def brH (width : Int) : List Hd := if inR width 1 32 = true then [⟨0, 0, emptyT width, 0, emptyT width⟩] else []
set_option maxRecDepth 100000 in
set_option maxHeartbeats 4000000 in
theorem specBrokerNew_c (width : Int) (w : World) : Calls Try.prog 76 #[.int .i64 width] w fun e w' => ∃ A c lo hi, e = .returned (.tuple #[.agg #[.int .i64 (brW width), .slice none 0 0, .slice none 0 0, .slice A (brH width).length c, .int .i64 0, .slice none 0 0, .int .i64 0, .slice none 0 0, .int .i64 0, .int .i64 0, .string (emptyT width), .int .i64 0, .string (emptyT width)], .bool (inR width 1 32)]) ∧ w.heap.size ≤ lo ∧ hi ≤ w'.heap.size ∧ Own w' lo hi A (hds (brH width)) ∧ Below w.heap.size w w' := by
 have HN := Lib.hid (fun h => emptyT_no (width := width) h)
 have HE := Lib.hid (fun W => specSealNew_c width W)
 have HW : Hid (brW width = if inR width 1 32 = true then width else 0) := Lib.hid rfl
 have HH : Hid (brH width = if inR width 1 32 = true then [⟨0, 0, emptyT width, 0, emptyT width⟩] else []) := Lib.hid rfl
 generalize emptyT width = em at *
 generalize inR width 1 32 = q1 at *
 generalize brW width = bw at *
 generalize brH width = bh at *
 have HB : Hid (Below w.heap.size w w) := Below.refl _ _
 go_enter Try.func76, Try.ntmps76
 go_wp2_with fail
 refine calls_named (fun w1 hw => ?_)
 have hz1 : w.heap.size + 1 ≤ w1.heap.size := by rw [hw]; first | omega | (simp [World.setCell]; done) | (simp [World.setCell]; omega)
 have hzz1 : w.heap.size ≤ w1.heap.size := by omega
 have hbn : Below w.heap.size w w1 := by rw [hw]; exact (by ((repeat (first | ((with_reducible refine Below.alloc ?_ ?_ _); rotate_left 1; (focus (first | omega | (simp; done) | (simp; omega)))) | (with_reducible refine Below.drew ?_) | ((with_reducible refine Below.setCell ?_ ?_ _); rotate_left 1; (focus (first | omega | (simp; done) | (simp; omega)))))); exact Below.refl _ _))
 replace HB := Lib.hid (below_then HB.out hbn HB.out.size)
 clear hbn
 have HXr : Hid (NewBox w1 (w.heap.size) [.int .i64 0, .slice none 0 0, .slice none 0 0, .slice none 0 0, .int .i64 0, .slice none 0 0, .int .i64 0, .slice none 0 0, .int .i64 0, .int .i64 0, .string ⟨#[]⟩, .int .i64 0, .string ⟨#[]⟩]) := by rw [Hid, hw]; exact ⟨by first | omega | (simp [World.setCell]; done) | (simp [World.setCell]; omega), fun o => by rcases o with _ | _ | _ | _ | _ | _ | _ | _ | _ | _ | _ | _ | _ | o <;> go_simp, fun o => by go_simp⟩
 have hxr := HXr.out.2.1
 have hfr := HXr.out.2.2
 have hkr := HXr.out.1
 clear hw
 refine (HE.out _).mono ?_
 rintro e w2 ⟨rfl, hb⟩
 have hzw2 : w1.heap.size ≤ w2.heap.size := hb.size
 have hzzw2 : w.heap.size ≤ w2.heap.size := by omega
 replace HB := Lib.hid (below_then HB.out hb HB.out.size)
 replace HXr := Lib.hid (HXr.out.below hb)
 clear hxr hfr hkr
 have hxr := HXr.out.2.1
 have hfr := HXr.out.2.2
 have hkr := HXr.out.1
 clear hb
 rcases q1 with _ | _
 ·obtain rfl := HN.out rfl
  go_wp2
  refine bodyPost_named (fun w3 hw => ?_)
  have hz3 : w2.heap.size + 1 ≤ w3.heap.size := by rw [hw]; first | omega | (simp [World.setCell]; done) | (simp [World.setCell]; omega)
  have hzz3 : w.heap.size ≤ w3.heap.size := by omega
  replace HB : Hid (Below w.heap.size w w3) := by rw [Hid, hw]; exact (by ((repeat (first | ((with_reducible refine Below.alloc ?_ ?_ _); rotate_left 1; (focus (first | omega | (simp; done) | (simp; omega)))) | (with_reducible refine Below.drew ?_) | ((with_reducible refine Below.setCell ?_ ?_ _); rotate_left 1; (focus (first | omega | (simp; done) | (simp; omega)))))); exact HB.out))
  replace HXr : Hid (NewBox w3 (w.heap.size) [.int .i64 0, .slice none 0 0, .slice none 0 0, .slice none 0 0, .int .i64 0, .slice none 0 0, .int .i64 0, .slice none 0 0, .int .i64 0, .int .i64 0, .string ⟨#[]⟩, .int .i64 0, .string ⟨#[]⟩]) := by rw [Hid, hw]; apply NewBox.cast; (focus ((repeat (first | (with_reducible apply NewBox.alloc) | (with_reducible apply NewBox.drew) | (with_reducible apply NewBox.set1) | ((with_reducible apply NewBox.far); (focus (first | omega | (simp; done) | (simp; omega)))))); exact HXr.out)); rfl
  clear hxr hfr hkr
  have hxr := HXr.out.2.1
  have hfr := HXr.out.2.2
  have hkr := HXr.out.1
  have HXs : Hid (NewBox w3 (w2.heap.size) [.int .i64 0, .slice none 0 0, .int .i64 0, .slice none 0 0, .int .i64 0, .int .i64 0, .string ⟨#[]⟩, .int .i64 0, .string ⟨#[]⟩]) := by rw [Hid, hw]; exact ⟨by first | omega | (simp [World.setCell]; done) | (simp [World.setCell]; omega), fun o => by rcases o with _ | _ | _ | _ | _ | _ | _ | _ | _ | o <;> go_simp, fun o => by go_simp⟩
  have hxs := HXs.out.2.1
  have hfs := HXs.out.2.2
  have hks := HXs.out.1
  clear hw
  refine bodyPost_ret (v := .tuple #[.agg #[.int .i64 0, .slice none 0 0, .slice none 0 0, .slice none 0 0, .int .i64 0, .slice none 0 0, .int .i64 0, .slice none 0 0, .int .i64 0, .int .i64 0, .string ⟨#[]⟩, .int .i64 0, .string ⟨#[]⟩], .bool false]) (by simp [results, Try.results76, go_sem, hxr]) rfl ?_
  exact ⟨none, 0, w3.heap.size, w3.heap.size, by rw [HW.out, HH.out]; rfl, by omega, Nat.le_refl _, by rw [HH.out]; exact Own.nil, HB.out⟩
 ·skip
  go_wp2
  refine bodyPost_named (fun w3 hw => ?_)
  have hz3 : w2.heap.size + 2 ≤ w3.heap.size := by rw [hw]; first | omega | (simp [World.setCell]; done) | (simp [World.setCell]; omega)
  have hzz3 : w.heap.size ≤ w3.heap.size := by omega
  replace HB : Hid (Below w.heap.size w w3) := by rw [Hid, hw]; exact (by ((repeat (first | ((with_reducible refine Below.alloc ?_ ?_ _); rotate_left 1; (focus (first | omega | (simp; done) | (simp; omega)))) | (with_reducible refine Below.drew ?_) | ((with_reducible refine Below.setCell ?_ ?_ _); rotate_left 1; (focus (first | omega | (simp; done) | (simp; omega)))))); exact HB.out))
  replace HXr : Hid (NewBox w3 (w.heap.size) [.int .i64 width, .slice none 0 0, .slice none 0 0, .slice (some ⟨w2.heap.size + 1, 0, none⟩) 1 1, .int .i64 0, .slice none 0 0, .int .i64 0, .slice none 0 0, .int .i64 0, .int .i64 0, .string em, .int .i64 0, .string em]) := by rw [Hid, hw]; apply NewBox.cast; (focus ((repeat (first | (with_reducible apply NewBox.alloc) | (with_reducible apply NewBox.drew) | (with_reducible apply NewBox.set1) | ((with_reducible apply NewBox.far); (focus (first | omega | (simp; done) | (simp; omega)))))); exact HXr.out)); rfl
  clear hxr hfr hkr
  have hxr := HXr.out.2.1
  have hfr := HXr.out.2.2
  have hkr := HXr.out.1
  have HXs : Hid (NewBox w3 (w2.heap.size) [.int .i64 0, .slice none 0 0, .int .i64 0, .slice none 0 0, .int .i64 0, .int .i64 0, .string em, .int .i64 0, .string em]) := by rw [Hid, hw]; exact ⟨by first | omega | (simp [World.setCell]; done) | (simp [World.setCell]; omega), fun o => by rcases o with _ | _ | _ | _ | _ | _ | _ | _ | _ | o <;> go_simp, fun o => by go_simp⟩
  have hxs := HXs.out.2.1
  have hfs := HXs.out.2.2
  have hks := HXs.out.1
  have HXg : Hid (NewBox w3 (w2.heap.size + 1) [.int .i64 0, .int .i64 0, .string em, .int .i64 0, .string em]) := by rw [Hid, hw]; exact ⟨by first | omega | (simp [World.setCell]; done) | (simp [World.setCell]; omega), fun o => by rcases o with _ | _ | _ | _ | _ | o <;> go_simp, fun o => by go_simp⟩
  have hxg := HXg.out.2.1
  have hfg := HXg.out.2.2
  have hkg := HXg.out.1
  clear hw
  refine bodyPost_ret (v := .tuple #[.agg #[.int .i64 width, .slice none 0 0, .slice none 0 0, .slice (some ⟨w2.heap.size + 1, 0, none⟩) 1 1, .int .i64 0, .slice none 0 0, .int .i64 0, .slice none 0 0, .int .i64 0, .int .i64 0, .string em, .int .i64 0, .string em], .bool true]) (by simp [results, Try.results76, go_sem, hxr]) rfl ?_
  refine ⟨some ⟨(w2.heap.size + 1), 0, none⟩, 1, (w2.heap.size + 1), (w2.heap.size + 1) + 1, by rw [HW.out, HH.out]; rfl, by omega, by omega, ?_, HB.out⟩
  rw [HH.out]
  intro _
  refine ⟨_, 0, rfl, Nat.le_refl _, Nat.lt_succ_self _, by omega, fun j u hu => ?_, fun j => by rw [Nat.zero_add]; exact hfg j⟩
  rw [Nat.zero_add]
  exact (hxg j).trans hu
end Go.Proofs.Ytoccjgcokffkbaa
