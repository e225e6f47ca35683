/- SealNew, BrokerNew. -/
import Derived.Test.YtmmepogjocfefaaGreatHds4
namespace Go.Proofs.YtmmepogjocfefaaGreat
set_option linter.unusedVariables false
set_option linter.unusedSimpArgs false
open Go.RowKit

set_option maxRecDepth 100000 in
set_option maxHeartbeats 4000000 in
theorem implSealNew_c (width : Int) (w : World) : Calls Tryz.prog 162 #[.int .i64 width] w fun e w' => e = .returned (.tuple #[.agg #[.int .i64 0, .slice none 0 0, .int .i64 0, .slice none 0 0, .int .i64 0, .int .i64 0, .string (emptyT width), .int .i64 0, .string (emptyT width)], .bool (inR width 1 32)]) ∧ Below w.heap.size w w' := by
 have HN := Lib.hid (fun h => emptyT_no (width := width) h)
 have HE := Lib.hid (fun W => implHeadNew_c width W)
 generalize emptyT width = em at *
 generalize inR width 1 32 = q1 at *
 have HB : Hid (Below w.heap.size w w) := Below.refl _ _
 go_enter Tryz.func162, Tryz.ntmps162
 go_wp2_with fail
 refine calls_named (fun w1 hw => ?_)
 have hz1 : w.heap.size + 1 ≤ w1.heap.size := by rw [hw]; first | omega | (simp [World.setCell]; done) | (simp [World.setCell]; omega)
 have hzz1 : w.heap.size ≤ w1.heap.size := by omega
 have hbn : Below w.heap.size w w1 := by rw [hw]; exact (by ((repeat (first | ((with_reducible refine Below.alloc ?_ ?_ _); rotate_left 1; (focus (first | omega | (simp; done) | (simp; omega)))) | (with_reducible refine Below.drew ?_) | ((with_reducible refine Below.setCell ?_ ?_ _); rotate_left 1; (focus (first | omega | (simp; done) | (simp; omega)))))); exact Below.refl _ _))
 replace HB := Lib.hid (below_then HB.out hbn HB.out.size)
 clear hbn
 have HXr : Hid (NewBox w1 (w.heap.size) [.int .i64 0, .slice none 0 0, .int .i64 0, .slice none 0 0, .int .i64 0, .int .i64 0, .string ⟨#[]⟩, .int .i64 0, .string ⟨#[]⟩]) := by rw [Hid, hw]; exact ⟨by first | omega | (simp [World.setCell]; done) | (simp [World.setCell]; omega), fun o => by rcases o with _ | _ | _ | _ | _ | _ | _ | _ | _ | o <;> go_simp, fun o => by go_simp⟩
 have hxr := HXr.out.2.1
 have hfr := HXr.out.2.2
 have hkr := HXr.out.1
 clear hw
 refine (HE.out _).mono ?_
 rintro e w2 ⟨rfl, hb⟩
 have hzw2 : w1.heap.size ≤ w2.heap.size := hb.size
 have hzzw2 : w.heap.size ≤ w2.heap.size := by omega
 replace HB := Lib.hid (below_then HB.out hb HB.out.size)
 replace HXr := Lib.hid (HXr.out.below hb)
 clear hxr hfr hkr
 have hxr := HXr.out.2.1
 have hfr := HXr.out.2.2
 have hkr := HXr.out.1
 clear hb
 rcases q1 with _ | _
 ·obtain rfl := HN.out rfl
  go_wp2
  refine bodyPost_named (fun w3 hw => ?_)
  have hz3 : w2.heap.size + 1 ≤ w3.heap.size := by rw [hw]; first | omega | (simp [World.setCell]; done) | (simp [World.setCell]; omega)
  have hzz3 : w.heap.size ≤ w3.heap.size := by omega
  replace HB : Hid (Below w.heap.size w w3) := by rw [Hid, hw]; exact (by ((repeat (first | ((with_reducible refine Below.alloc ?_ ?_ _); rotate_left 1; (focus (first | omega | (simp; done) | (simp; omega)))) | (with_reducible refine Below.drew ?_) | ((with_reducible refine Below.setCell ?_ ?_ _); rotate_left 1; (focus (first | omega | (simp; done) | (simp; omega)))))); exact HB.out))
  replace HXr : Hid (NewBox w3 (w.heap.size) [.int .i64 0, .slice none 0 0, .int .i64 0, .slice none 0 0, .int .i64 0, .int .i64 0, .string ⟨#[]⟩, .int .i64 0, .string ⟨#[]⟩]) := by rw [Hid, hw]; apply NewBox.cast; (focus ((repeat (first | (with_reducible apply NewBox.alloc) | (with_reducible apply NewBox.drew) | (with_reducible apply NewBox.set1) | ((with_reducible apply NewBox.far); (focus (first | omega | (simp; done) | (simp; omega)))))); exact HXr.out)); rfl
  clear hxr hfr hkr
  have hxr := HXr.out.2.1
  have hfr := HXr.out.2.2
  have hkr := HXr.out.1
  have HXh : Hid (NewBox w3 (w2.heap.size) [.int .i64 0, .int .i64 0, .string ⟨#[]⟩, .int .i64 0, .string ⟨#[]⟩]) := by rw [Hid, hw]; exact ⟨by first | omega | (simp [World.setCell]; done) | (simp [World.setCell]; omega), fun o => by rcases o with _ | _ | _ | _ | _ | o <;> go_simp, fun o => by go_simp⟩
  have hxh := HXh.out.2.1
  have hfh := HXh.out.2.2
  have hkh := HXh.out.1
  clear hw
  refine bodyPost_ret (v := .tuple #[.agg #[.int .i64 0, .slice none 0 0, .int .i64 0, .slice none 0 0, .int .i64 0, .int .i64 0, .string ⟨#[]⟩, .int .i64 0, .string ⟨#[]⟩], .bool false]) (by simp [results, Tryz.results162, go_sem, hxr]) rfl ?_
  exact ⟨rfl, HB.out⟩
 ·skip
  go_wp2
  refine bodyPost_named (fun w3 hw => ?_)
  have hz3 : w2.heap.size + 1 ≤ w3.heap.size := by rw [hw]; first | omega | (simp [World.setCell]; done) | (simp [World.setCell]; omega)
  have hzz3 : w.heap.size ≤ w3.heap.size := by omega
  replace HB : Hid (Below w.heap.size w w3) := by rw [Hid, hw]; exact (by ((repeat (first | ((with_reducible refine Below.alloc ?_ ?_ _); rotate_left 1; (focus (first | omega | (simp; done) | (simp; omega)))) | (with_reducible refine Below.drew ?_) | ((with_reducible refine Below.setCell ?_ ?_ _); rotate_left 1; (focus (first | omega | (simp; done) | (simp; omega)))))); exact HB.out))
  replace HXr : Hid (NewBox w3 (w.heap.size) [.int .i64 0, .slice none 0 0, .int .i64 0, .slice none 0 0, .int .i64 0, .int .i64 0, .string em, .int .i64 0, .string em]) := by rw [Hid, hw]; apply NewBox.cast; (focus ((repeat (first | (with_reducible apply NewBox.alloc) | (with_reducible apply NewBox.drew) | (with_reducible apply NewBox.set1) | ((with_reducible apply NewBox.far); (focus (first | omega | (simp; done) | (simp; omega)))))); exact HXr.out)); rfl
  clear hxr hfr hkr
  have hxr := HXr.out.2.1
  have hfr := HXr.out.2.2
  have hkr := HXr.out.1
  have HXh : Hid (NewBox w3 (w2.heap.size) [.int .i64 0, .int .i64 0, .string em, .int .i64 0, .string em]) := by rw [Hid, hw]; exact ⟨by first | omega | (simp [World.setCell]; done) | (simp [World.setCell]; omega), fun o => by rcases o with _ | _ | _ | _ | _ | o <;> go_simp, fun o => by go_simp⟩
  have hxh := HXh.out.2.1
  have hfh := HXh.out.2.2
  have hkh := HXh.out.1
  clear hw
  refine bodyPost_ret (v := .tuple #[.agg #[.int .i64 0, .slice none 0 0, .int .i64 0, .slice none 0 0, .int .i64 0, .int .i64 0, .string em, .int .i64 0, .string em], .bool true]) (by simp [results, Tryz.results162, go_sem, hxr]) rfl ?_
  exact ⟨rfl, HB.out⟩
def brW (width : Int) : Int := if inR width 1 32 = true then width else 0
def brH (width : Int) : List Hd := if inR width 1 32 = true then [⟨0, 0, emptyT width, 0, emptyT width⟩] else []
end Go.Proofs.YtmmepogjocfefaaGreat
