/- Two heads: parted, Follows, ForkOf. -/
import Derived.Test.YtojjjhbiccgjkaaHdT
namespace Go.Proofs.Ytojjjhbiccgjkaa
set_option linter.unusedVariables false
set_option linter.unusedSimpArgs false
open Go.RowKit

def partedB (s r t u : Bool) : Bool := s && !r || t && !u
def partedM (a b : Hd) : Bool := partedB (a.size == b.size) (a.root.toList == b.root.toList) (a.taken == b.taken) (a.troot.toList == b.troot.toList)
def forkM (width : Int) (a b : Hd) : Bool := headOk width a && headOk width b && partedM a b
def aheadM (a b : Hd) : Bool := decide (b.num ≤ a.num) || decide (b.size < a.size) || decide (b.taken < a.taken)
def followsM (width : Int) (a b : Hd) : Bool := headOk width a && headOk width b && !aheadM a b && !partedM a b
theorem bne_of_beq {α : Type} [BEq α] {a b : α} {q : Bool} (h : (a == b) = q) : (a != b) = !q := by rw [bne, h]

set_option maxRecDepth 100000 in
set_option maxHeartbeats 400000 in
theorem parted_c (a b : Hd) (w : World) : Calls Try.prog 111 #[.agg #[.int .i64 a.num, .int .i64 a.size, .string a.root, .int .i64 a.taken, .string a.troot], .agg #[.int .i64 b.num, .int .i64 b.size, .string b.root, .int .i64 b.taken, .string b.troot]] w fun e w' => e = .returned (.bool (partedM a b)) ∧ Below w.heap.size w w' := by
  have HP : Hid (partedM a b = partedB (a.size == b.size) (a.root.toList == b.root.toList) (a.taken == b.taken) (a.troot.toList == b.troot.toList)) := Lib.hid rfl
  rcases h1 : (a.size == b.size) with _ | _ <;> rcases h2 : (a.root.toList == b.root.toList) with _ | _ <;> rcases h3 : (a.taken == b.taken) with _ | _ <;> rcases h4 : (a.troot.toList == b.troot.toList) with _ | _
  all_goals
    rw [h1, h2, h3, h4] at HP
    have n1 := bne_of_beq h1
    have n2 := bne_of_beq h2
    have n3 := bne_of_beq h3
    have n4 := bne_of_beq h4
    generalize partedM a b = pm at *
    go_enter Try.func111, Try.ntmps111
    go_wp2
    go_ret
    exact ⟨ret_bool (by rw [HP.out]; rfl), ((Below.refl _ _).alloc (Nat.le_refl _) _).alloc (by first | omega | (simp; done) | (simp; omega)) _⟩
set_option maxRecDepth 100000 in
set_option maxHeartbeats 400000 in
theorem implForkOf_c (width : Int) (a b : Hd) (w : World) (hz : a.bulk + b.bulk ≤ 1048576) : Calls Try.prog 36 #[.int .i64 width, .agg #[.int .i64 a.num, .int .i64 a.size, .string a.root, .int .i64 a.taken, .string a.troot], .agg #[.int .i64 b.num, .int .i64 b.size, .string b.root, .int .i64 b.taken, .string b.troot]] w fun e w' => e = .returned (.bool (forkM width a b)) ∧ Below w.heap.size w w' := by
  have HA := Lib.hid (fun W => implHeadOk_c width a W (by omega))
  have HBB := Lib.hid (fun W => implHeadOk_c width b W (by omega))
  have HF : Hid (forkM width a b = (headOk width a && headOk width b && partedM a b)) := Lib.hid rfl
  clear hz
  generalize forkM width a b = fm at *
  generalize headOk width a = ka at *
  generalize headOk width b = kb at *
  have HB : Hid (Below w.heap.size w w) := Below.refl _ _
  go_enter Try.func36, Try.ntmps36
  go_wp2_with fail
  refine calls_named (fun w1 hw => ?_)
  have hz1 : w.heap.size + 2 ≤ w1.heap.size := by rw [hw]; first | omega | (simp [World.setCell]; done) | (simp [World.setCell]; omega)
  have hzz1 : w.heap.size ≤ w1.heap.size := by omega
  replace HB : Hid (Below w.heap.size w w1) := by rw [Hid, hw]; exact (by ((repeat (first | ((with_reducible refine Below.alloc ?_ ?_ _); rotate_left 1; (focus (first | omega | (simp; done) | (simp; omega)))) | (with_reducible refine Below.drew ?_) | ((with_reducible refine Below.setCell ?_ ?_ _); rotate_left 1; (focus (first | omega | (simp; done) | (simp; omega)))))); exact HB.out))
  have HXa : Hid (NewBox w1 (w.heap.size) [.int .i64 a.num, .int .i64 a.size, .string a.root, .int .i64 a.taken, .string a.troot]) := by rw [Hid, hw]; exact ⟨by first | omega | (simp [World.setCell]; done) | (simp [World.setCell]; omega), fun o => by rcases o with _ | _ | _ | _ | _ | o <;> go_simp, fun o => by go_simp⟩
  have hxa := HXa.out.2.1
  have hfa := HXa.out.2.2
  have hka := HXa.out.1
  have HXb : Hid (NewBox w1 (w.heap.size + 1) [.int .i64 b.num, .int .i64 b.size, .string b.root, .int .i64 b.taken, .string b.troot]) := by rw [Hid, hw]; exact ⟨by first | omega | (simp [World.setCell]; done) | (simp [World.setCell]; omega), fun o => by rcases o with _ | _ | _ | _ | _ | o <;> go_simp, fun o => by go_simp⟩
  have hxb := HXb.out.2.1
  have hfb := HXb.out.2.2
  have hkb := HXb.out.1
  clear hw
  refine (HA.out _).mono ?_
  rintro e w2 ⟨rfl, hb⟩
  have hzw2 : w1.heap.size ≤ w2.heap.size := hb.size
  have hzzw2 : w.heap.size ≤ w2.heap.size := by omega
  replace HB : Hid (Below w.heap.size w w2) := below_then HB.out hb HB.out.size
  replace HXa : Hid (NewBox w2 (w.heap.size) [.int .i64 a.num, .int .i64 a.size, .string a.root, .int .i64 a.taken, .string a.troot]) := HXa.out.below hb
  clear hxa hfa hka
  have hxa := HXa.out.2.1
  have hfa := HXa.out.2.2
  have hka := HXa.out.1
  replace HXb : Hid (NewBox w2 (w.heap.size + 1) [.int .i64 b.num, .int .i64 b.size, .string b.root, .int .i64 b.taken, .string b.troot]) := HXb.out.below hb
  clear hxb hfb hkb
  have hxb := HXb.out.2.1
  have hfb := HXb.out.2.2
  have hkb := HXb.out.1
  clear hb
  rcases ka with _ | _
  · go_wp2
    go_ret
    exact ⟨ret_bool (by rw [HF.out]; rfl), HB.out⟩
  · go_wp2_with fail
    refine calls_named (fun w3 hw => ?_)
    have hz3 : w2.heap.size + 0 ≤ w3.heap.size := by rw [hw]; first | omega | (simp [World.setCell]; done) | (simp [World.setCell]; omega)
    have hzz3 : w.heap.size ≤ w3.heap.size := by omega
    replace HB : Hid (Below w.heap.size w w3) := by rw [Hid, hw]; exact (by ((repeat (first | ((with_reducible refine Below.alloc ?_ ?_ _); rotate_left 1; (focus (first | omega | (simp; done) | (simp; omega)))) | (with_reducible refine Below.drew ?_) | ((with_reducible refine Below.setCell ?_ ?_ _); rotate_left 1; (focus (first | omega | (simp; done) | (simp; omega)))))); exact HB.out))
    replace HXa : Hid (NewBox w3 (w.heap.size) [.int .i64 a.num, .int .i64 a.size, .string a.root, .int .i64 a.taken, .string a.troot]) := by rw [Hid, hw]; (repeat (first | (with_reducible refine NewBox.alloc ?_ _) | (with_reducible refine NewBox.drew ?_) | ((with_reducible refine NewBox.setCell ?_ ?_ _); rotate_left 1; (focus (first | omega | (simp; done) | (simp; omega)))))); exact HXa.out
    clear hxa hfa hka
    have hxa := HXa.out.2.1
    have hfa := HXa.out.2.2
    have hka := HXa.out.1
    replace HXb : Hid (NewBox w3 (w.heap.size + 1) [.int .i64 b.num, .int .i64 b.size, .string b.root, .int .i64 b.taken, .string b.troot]) := by rw [Hid, hw]; (repeat (first | (with_reducible refine NewBox.alloc ?_ _) | (with_reducible refine NewBox.drew ?_) | ((with_reducible refine NewBox.setCell ?_ ?_ _); rotate_left 1; (focus (first | omega | (simp; done) | (simp; omega)))))); exact HXb.out
    clear hxb hfb hkb
    have hxb := HXb.out.2.1
    have hfb := HXb.out.2.2
    have hkb := HXb.out.1
    clear hw
    refine (HBB.out _).mono ?_
    rintro e w4 ⟨rfl, hb⟩
    have hzw4 : w3.heap.size ≤ w4.heap.size := hb.size
    have hzzw4 : w.heap.size ≤ w4.heap.size := by omega
    replace HB : Hid (Below w.heap.size w w4) := below_then HB.out hb HB.out.size
    replace HXa : Hid (NewBox w4 (w.heap.size) [.int .i64 a.num, .int .i64 a.size, .string a.root, .int .i64 a.taken, .string a.troot]) := HXa.out.below hb
    clear hxa hfa hka
    have hxa := HXa.out.2.1
    have hfa := HXa.out.2.2
    have hka := HXa.out.1
    replace HXb : Hid (NewBox w4 (w.heap.size + 1) [.int .i64 b.num, .int .i64 b.size, .string b.root, .int .i64 b.taken, .string b.troot]) := HXb.out.below hb
    clear hxb hfb hkb
    have hxb := HXb.out.2.1
    have hfb := HXb.out.2.2
    have hkb := HXb.out.1
    clear hb
    rcases kb with _ | _
    · go_wp2
      go_ret
      exact ⟨ret_bool (by rw [HF.out]; rfl), HB.out⟩
    · go_wp2_with fail
      refine calls_named (fun w5 hw => ?_)
      have hz5 : w4.heap.size + 0 ≤ w5.heap.size := by rw [hw]; first | omega | (simp [World.setCell]; done) | (simp [World.setCell]; omega)
      have hzz5 : w.heap.size ≤ w5.heap.size := by omega
      replace HB : Hid (Below w.heap.size w w5) := by rw [Hid, hw]; exact (by ((repeat (first | ((with_reducible refine Below.alloc ?_ ?_ _); rotate_left 1; (focus (first | omega | (simp; done) | (simp; omega)))) | (with_reducible refine Below.drew ?_) | ((with_reducible refine Below.setCell ?_ ?_ _); rotate_left 1; (focus (first | omega | (simp; done) | (simp; omega)))))); exact HB.out))
      replace HXa : Hid (NewBox w5 (w.heap.size) [.int .i64 a.num, .int .i64 a.size, .string a.root, .int .i64 a.taken, .string a.troot]) := by rw [Hid, hw]; (repeat (first | (with_reducible refine NewBox.alloc ?_ _) | (with_reducible refine NewBox.drew ?_) | ((with_reducible refine NewBox.setCell ?_ ?_ _); rotate_left 1; (focus (first | omega | (simp; done) | (simp; omega)))))); exact HXa.out
      clear hxa hfa hka
      have hxa := HXa.out.2.1
      have hfa := HXa.out.2.2
      have hka := HXa.out.1
      replace HXb : Hid (NewBox w5 (w.heap.size + 1) [.int .i64 b.num, .int .i64 b.size, .string b.root, .int .i64 b.taken, .string b.troot]) := by rw [Hid, hw]; (repeat (first | (with_reducible refine NewBox.alloc ?_ _) | (with_reducible refine NewBox.drew ?_) | ((with_reducible refine NewBox.setCell ?_ ?_ _); rotate_left 1; (focus (first | omega | (simp; done) | (simp; omega)))))); exact HXb.out
      clear hxb hfb hkb
      have hxb := HXb.out.2.1
      have hfb := HXb.out.2.2
      have hkb := HXb.out.1
      clear hw
      refine (parted_c a b _).mono ?_
      rintro e w6 ⟨rfl, hb⟩
      have hzw6 : w5.heap.size ≤ w6.heap.size := hb.size
      have hzzw6 : w.heap.size ≤ w6.heap.size := by omega
      replace HB : Hid (Below w.heap.size w w6) := below_then HB.out hb HB.out.size
      replace HXa : Hid (NewBox w6 (w.heap.size) [.int .i64 a.num, .int .i64 a.size, .string a.root, .int .i64 a.taken, .string a.troot]) := HXa.out.below hb
      clear hxa hfa hka
      have hxa := HXa.out.2.1
      have hfa := HXa.out.2.2
      have hka := HXa.out.1
      replace HXb : Hid (NewBox w6 (w.heap.size + 1) [.int .i64 b.num, .int .i64 b.size, .string b.root, .int .i64 b.taken, .string b.troot]) := HXb.out.below hb
      clear hxb hfb hkb
      have hxb := HXb.out.2.1
      have hfb := HXb.out.2.2
      have hkb := HXb.out.1
      clear hb
      generalize partedM a b = pm at *
      go_wp2
      go_ret
      exact ⟨ret_bool (by rw [HF.out]; rfl), HB.out⟩
set_option maxRecDepth 100000 in
set_option maxHeartbeats 400000 in
theorem implFollows_c (width : Int) (a b : Hd) (w : World) (hz : a.bulk + b.bulk ≤ 1048576) : Calls Try.prog 38 #[.int .i64 width, .agg #[.int .i64 a.num, .int .i64 a.size, .string a.root, .int .i64 a.taken, .string a.troot], .agg #[.int .i64 b.num, .int .i64 b.size, .string b.root, .int .i64 b.taken, .string b.troot]] w fun e w' => e = .returned (.bool (followsM width a b)) ∧ Below w.heap.size w w' := by
  have HA := Lib.hid (fun W => implHeadOk_c width a W (by omega))
  have HBB := Lib.hid (fun W => implHeadOk_c width b W (by omega))
  have HF : Hid (followsM width a b = (headOk width a && headOk width b && !(decide (b.num ≤ a.num) || decide (b.size < a.size) || decide (b.taken < a.taken)) && !partedM a b)) := Lib.hid rfl
  clear hz
  generalize followsM width a b = fm at *
  generalize headOk width a = ka at *
  generalize headOk width b = kb at *
  have HB : Hid (Below w.heap.size w w) := Below.refl _ _
  go_enter Try.func38, Try.ntmps38
  go_wp2_with fail
  refine calls_named (fun w1 hw => ?_)
  have hz1 : w.heap.size + 2 ≤ w1.heap.size := by rw [hw]; first | omega | (simp [World.setCell]; done) | (simp [World.setCell]; omega)
  have hzz1 : w.heap.size ≤ w1.heap.size := by omega
  replace HB : Hid (Below w.heap.size w w1) := by rw [Hid, hw]; exact (by ((repeat (first | ((with_reducible refine Below.alloc ?_ ?_ _); rotate_left 1; (focus (first | omega | (simp; done) | (simp; omega)))) | (with_reducible refine Below.drew ?_) | ((with_reducible refine Below.setCell ?_ ?_ _); rotate_left 1; (focus (first | omega | (simp; done) | (simp; omega)))))); exact HB.out))
  have HXa : Hid (NewBox w1 (w.heap.size) [.int .i64 a.num, .int .i64 a.size, .string a.root, .int .i64 a.taken, .string a.troot]) := by rw [Hid, hw]; exact ⟨by first | omega | (simp [World.setCell]; done) | (simp [World.setCell]; omega), fun o => by rcases o with _ | _ | _ | _ | _ | o <;> go_simp, fun o => by go_simp⟩
  have hxa := HXa.out.2.1
  have hfa := HXa.out.2.2
  have hka := HXa.out.1
  have HXb : Hid (NewBox w1 (w.heap.size + 1) [.int .i64 b.num, .int .i64 b.size, .string b.root, .int .i64 b.taken, .string b.troot]) := by rw [Hid, hw]; exact ⟨by first | omega | (simp [World.setCell]; done) | (simp [World.setCell]; omega), fun o => by rcases o with _ | _ | _ | _ | _ | o <;> go_simp, fun o => by go_simp⟩
  have hxb := HXb.out.2.1
  have hfb := HXb.out.2.2
  have hkb := HXb.out.1
  clear hw
  refine (HA.out _).mono ?_
  rintro e w2 ⟨rfl, hb⟩
  have hzw2 : w1.heap.size ≤ w2.heap.size := hb.size
  have hzzw2 : w.heap.size ≤ w2.heap.size := by omega
  replace HB : Hid (Below w.heap.size w w2) := below_then HB.out hb HB.out.size
  replace HXa : Hid (NewBox w2 (w.heap.size) [.int .i64 a.num, .int .i64 a.size, .string a.root, .int .i64 a.taken, .string a.troot]) := HXa.out.below hb
  clear hxa hfa hka
  have hxa := HXa.out.2.1
  have hfa := HXa.out.2.2
  have hka := HXa.out.1
  replace HXb : Hid (NewBox w2 (w.heap.size + 1) [.int .i64 b.num, .int .i64 b.size, .string b.root, .int .i64 b.taken, .string b.troot]) := HXb.out.below hb
  clear hxb hfb hkb
  have hxb := HXb.out.2.1
  have hfb := HXb.out.2.2
  have hkb := HXb.out.1
  clear hb
  rcases ka with _ | _
  · go_wp2
    go_ret
    exact ⟨ret_bool (by rw [HF.out]; rfl), HB.out⟩
  · go_wp2_with fail
    refine calls_named (fun w3 hw => ?_)
    have hz3 : w2.heap.size + 0 ≤ w3.heap.size := by rw [hw]; first | omega | (simp [World.setCell]; done) | (simp [World.setCell]; omega)
    have hzz3 : w.heap.size ≤ w3.heap.size := by omega
    replace HB : Hid (Below w.heap.size w w3) := by rw [Hid, hw]; exact (by ((repeat (first | ((with_reducible refine Below.alloc ?_ ?_ _); rotate_left 1; (focus (first | omega | (simp; done) | (simp; omega)))) | (with_reducible refine Below.drew ?_) | ((with_reducible refine Below.setCell ?_ ?_ _); rotate_left 1; (focus (first | omega | (simp; done) | (simp; omega)))))); exact HB.out))
    replace HXa : Hid (NewBox w3 (w.heap.size) [.int .i64 a.num, .int .i64 a.size, .string a.root, .int .i64 a.taken, .string a.troot]) := by rw [Hid, hw]; (repeat (first | (with_reducible refine NewBox.alloc ?_ _) | (with_reducible refine NewBox.drew ?_) | ((with_reducible refine NewBox.setCell ?_ ?_ _); rotate_left 1; (focus (first | omega | (simp; done) | (simp; omega)))))); exact HXa.out
    clear hxa hfa hka
    have hxa := HXa.out.2.1
    have hfa := HXa.out.2.2
    have hka := HXa.out.1
    replace HXb : Hid (NewBox w3 (w.heap.size + 1) [.int .i64 b.num, .int .i64 b.size, .string b.root, .int .i64 b.taken, .string b.troot]) := by rw [Hid, hw]; (repeat (first | (with_reducible refine NewBox.alloc ?_ _) | (with_reducible refine NewBox.drew ?_) | ((with_reducible refine NewBox.setCell ?_ ?_ _); rotate_left 1; (focus (first | omega | (simp; done) | (simp; omega)))))); exact HXb.out
    clear hxb hfb hkb
    have hxb := HXb.out.2.1
    have hfb := HXb.out.2.2
    have hkb := HXb.out.1
    clear hw
    refine (HBB.out _).mono ?_
    rintro e w4 ⟨rfl, hb⟩
    have hzw4 : w3.heap.size ≤ w4.heap.size := hb.size
    have hzzw4 : w.heap.size ≤ w4.heap.size := by omega
    replace HB : Hid (Below w.heap.size w w4) := below_then HB.out hb HB.out.size
    replace HXa : Hid (NewBox w4 (w.heap.size) [.int .i64 a.num, .int .i64 a.size, .string a.root, .int .i64 a.taken, .string a.troot]) := HXa.out.below hb
    clear hxa hfa hka
    have hxa := HXa.out.2.1
    have hfa := HXa.out.2.2
    have hka := HXa.out.1
    replace HXb : Hid (NewBox w4 (w.heap.size + 1) [.int .i64 b.num, .int .i64 b.size, .string b.root, .int .i64 b.taken, .string b.troot]) := HXb.out.below hb
    clear hxb hfb hkb
    have hxb := HXb.out.2.1
    have hfb := HXb.out.2.2
    have hkb := HXb.out.1
    clear hb
    rcases kb with _ | _
    · go_wp2
      go_ret
      exact ⟨ret_bool (by rw [HF.out]; rfl), HB.out⟩
    · skip
      by_cases d1 : b.num ≤ a.num
      · go_wp2
        go_ret
        exact ⟨ret_bool (by rw [HF.out]; simp [d1]), HB.out⟩
      · by_cases d2 : b.size < a.size
        · go_wp2
          go_ret
          exact ⟨ret_bool (by rw [HF.out]; simp [d2]), HB.out⟩
        · by_cases d3 : b.taken < a.taken
          · go_wp2
            go_ret
            exact ⟨ret_bool (by rw [HF.out]; simp [d3]), HB.out⟩
          · skip
            go_wp2_with fail
            refine calls_named (fun w5 hw => ?_)
            have hz5 : w4.heap.size + 0 ≤ w5.heap.size := by rw [hw]; first | omega | (simp [World.setCell]; done) | (simp [World.setCell]; omega)
            have hzz5 : w.heap.size ≤ w5.heap.size := by omega
            replace HB : Hid (Below w.heap.size w w5) := by rw [Hid, hw]; exact (by ((repeat (first | ((with_reducible refine Below.alloc ?_ ?_ _); rotate_left 1; (focus (first | omega | (simp; done) | (simp; omega)))) | (with_reducible refine Below.drew ?_) | ((with_reducible refine Below.setCell ?_ ?_ _); rotate_left 1; (focus (first | omega | (simp; done) | (simp; omega)))))); exact HB.out))
            replace HXa : Hid (NewBox w5 (w.heap.size) [.int .i64 a.num, .int .i64 a.size, .string a.root, .int .i64 a.taken, .string a.troot]) := by rw [Hid, hw]; (repeat (first | (with_reducible refine NewBox.alloc ?_ _) | (with_reducible refine NewBox.drew ?_) | ((with_reducible refine NewBox.setCell ?_ ?_ _); rotate_left 1; (focus (first | omega | (simp; done) | (simp; omega)))))); exact HXa.out
            clear hxa hfa hka
            have hxa := HXa.out.2.1
            have hfa := HXa.out.2.2
            have hka := HXa.out.1
            replace HXb : Hid (NewBox w5 (w.heap.size + 1) [.int .i64 b.num, .int .i64 b.size, .string b.root, .int .i64 b.taken, .string b.troot]) := by rw [Hid, hw]; (repeat (first | (with_reducible refine NewBox.alloc ?_ _) | (with_reducible refine NewBox.drew ?_) | ((with_reducible refine NewBox.setCell ?_ ?_ _); rotate_left 1; (focus (first | omega | (simp; done) | (simp; omega)))))); exact HXb.out
            clear hxb hfb hkb
            have hxb := HXb.out.2.1
            have hfb := HXb.out.2.2
            have hkb := HXb.out.1
            clear hw
            refine (parted_c a b _).mono ?_
            rintro e w6 ⟨rfl, hb⟩
            have hzw6 : w5.heap.size ≤ w6.heap.size := hb.size
            have hzzw6 : w.heap.size ≤ w6.heap.size := by omega
            replace HB : Hid (Below w.heap.size w w6) := below_then HB.out hb HB.out.size
            replace HXa : Hid (NewBox w6 (w.heap.size) [.int .i64 a.num, .int .i64 a.size, .string a.root, .int .i64 a.taken, .string a.troot]) := HXa.out.below hb
            clear hxa hfa hka
            have hxa := HXa.out.2.1
            have hfa := HXa.out.2.2
            have hka := HXa.out.1
            replace HXb : Hid (NewBox w6 (w.heap.size + 1) [.int .i64 b.num, .int .i64 b.size, .string b.root, .int .i64 b.taken, .string b.troot]) := HXb.out.below hb
            clear hxb hfb hkb
            have hxb := HXb.out.2.1
            have hfb := HXb.out.2.2
            have hkb := HXb.out.1
            clear hb
            have H1 : Hid (decide (b.num ≤ a.num) = false ∧ decide (b.size < a.size) = false ∧ decide (b.taken < a.taken) = false) := ⟨decide_eq_false (by omega), decide_eq_false (by omega), decide_eq_false (by omega)⟩
            generalize partedM a b = pm at *
            go_wp2
            go_ret
            exact ⟨ret_bool (by rw [HF.out, H1.out.1, H1.out.2.1, H1.out.2.2]; rfl), HB.out⟩
set_option maxRecDepth 100000 in
set_option maxHeartbeats 4000000 in
theorem specForkOf_c (width : Int) (a b : Hd) (w : World) (hz : a.bulk + b.bulk ≤ 1048576) : Calls Try.prog 35 #[.int .i64 width, .agg #[.int .i64 a.num, .int .i64 a.size, .string a.root, .int .i64 a.taken, .string a.troot], .agg #[.int .i64 b.num, .int .i64 b.size, .string b.root, .int .i64 b.taken, .string b.troot]] w fun e w' => e = .returned (.bool (forkM width a b)) ∧ Below w.heap.size w w' := by
  have HA := Lib.hid (fun W => specHeadOk_c width a W (by omega))
  have HBB := Lib.hid (fun W => specHeadOk_c width b W (by omega))
  have HF : Hid (forkM width a b = (headOk width a && headOk width b && partedM a b)) := Lib.hid rfl
  have HP : Hid (partedM a b = partedB (a.size == b.size) (a.root.toList == b.root.toList) (a.taken == b.taken) (a.troot.toList == b.troot.toList)) := Lib.hid rfl
  clear hz
  generalize partedM a b = pm at *
  generalize forkM width a b = fm at *
  generalize headOk width a = ka at *
  generalize headOk width b = kb at *
  have HB : Hid (Below w.heap.size w w) := Below.refl _ _
  go_enter Try.func35, Try.ntmps35
  go_wp2_with fail
  refine calls_named (fun w1 hw => ?_)
  have hz1 : w.heap.size + 2 ≤ w1.heap.size := by rw [hw]; first | omega | (simp [World.setCell]; done) | (simp [World.setCell]; omega)
  have hzz1 : w.heap.size ≤ w1.heap.size := by omega
  replace HB : Hid (Below w.heap.size w w1) := by rw [Hid, hw]; exact (by ((repeat (first | ((with_reducible refine Below.alloc ?_ ?_ _); rotate_left 1; (focus (first | omega | (simp; done) | (simp; omega)))) | (with_reducible refine Below.drew ?_) | ((with_reducible refine Below.setCell ?_ ?_ _); rotate_left 1; (focus (first | omega | (simp; done) | (simp; omega)))))); exact HB.out))
  have HXa : Hid (NewBox w1 (w.heap.size) [.int .i64 a.num, .int .i64 a.size, .string a.root, .int .i64 a.taken, .string a.troot]) := by rw [Hid, hw]; exact ⟨by first | omega | (simp [World.setCell]; done) | (simp [World.setCell]; omega), fun o => by rcases o with _ | _ | _ | _ | _ | o <;> go_simp, fun o => by go_simp⟩
  have hxa := HXa.out.2.1
  have hfa := HXa.out.2.2
  have hka := HXa.out.1
  have HXb : Hid (NewBox w1 (w.heap.size + 1) [.int .i64 b.num, .int .i64 b.size, .string b.root, .int .i64 b.taken, .string b.troot]) := by rw [Hid, hw]; exact ⟨by first | omega | (simp [World.setCell]; done) | (simp [World.setCell]; omega), fun o => by rcases o with _ | _ | _ | _ | _ | o <;> go_simp, fun o => by go_simp⟩
  have hxb := HXb.out.2.1
  have hfb := HXb.out.2.2
  have hkb := HXb.out.1
  clear hw
  refine (HA.out _).mono ?_
  rintro e w2 ⟨rfl, hb⟩
  have hzw2 : w1.heap.size ≤ w2.heap.size := hb.size
  have hzzw2 : w.heap.size ≤ w2.heap.size := by omega
  replace HB : Hid (Below w.heap.size w w2) := below_then HB.out hb HB.out.size
  replace HXa : Hid (NewBox w2 (w.heap.size) [.int .i64 a.num, .int .i64 a.size, .string a.root, .int .i64 a.taken, .string a.troot]) := HXa.out.below hb
  clear hxa hfa hka
  have hxa := HXa.out.2.1
  have hfa := HXa.out.2.2
  have hka := HXa.out.1
  replace HXb : Hid (NewBox w2 (w.heap.size + 1) [.int .i64 b.num, .int .i64 b.size, .string b.root, .int .i64 b.taken, .string b.troot]) := HXb.out.below hb
  clear hxb hfb hkb
  have hxb := HXb.out.2.1
  have hfb := HXb.out.2.2
  have hkb := HXb.out.1
  clear hb
  rcases ka with _ | _
  · go_wp2
    go_ret
    exact ⟨ret_bool (by rw [HF.out]; rfl), HB.out⟩
  · go_wp2_with fail
    refine calls_named (fun w3 hw => ?_)
    have hz3 : w2.heap.size + 0 ≤ w3.heap.size := by rw [hw]; first | omega | (simp [World.setCell]; done) | (simp [World.setCell]; omega)
    have hzz3 : w.heap.size ≤ w3.heap.size := by omega
    replace HB : Hid (Below w.heap.size w w3) := by rw [Hid, hw]; exact (by ((repeat (first | ((with_reducible refine Below.alloc ?_ ?_ _); rotate_left 1; (focus (first | omega | (simp; done) | (simp; omega)))) | (with_reducible refine Below.drew ?_) | ((with_reducible refine Below.setCell ?_ ?_ _); rotate_left 1; (focus (first | omega | (simp; done) | (simp; omega)))))); exact HB.out))
    replace HXa : Hid (NewBox w3 (w.heap.size) [.int .i64 a.num, .int .i64 a.size, .string a.root, .int .i64 a.taken, .string a.troot]) := by rw [Hid, hw]; (repeat (first | (with_reducible refine NewBox.alloc ?_ _) | (with_reducible refine NewBox.drew ?_) | ((with_reducible refine NewBox.setCell ?_ ?_ _); rotate_left 1; (focus (first | omega | (simp; done) | (simp; omega)))))); exact HXa.out
    clear hxa hfa hka
    have hxa := HXa.out.2.1
    have hfa := HXa.out.2.2
    have hka := HXa.out.1
    replace HXb : Hid (NewBox w3 (w.heap.size + 1) [.int .i64 b.num, .int .i64 b.size, .string b.root, .int .i64 b.taken, .string b.troot]) := by rw [Hid, hw]; (repeat (first | (with_reducible refine NewBox.alloc ?_ _) | (with_reducible refine NewBox.drew ?_) | ((with_reducible refine NewBox.setCell ?_ ?_ _); rotate_left 1; (focus (first | omega | (simp; done) | (simp; omega)))))); exact HXb.out
    clear hxb hfb hkb
    have hxb := HXb.out.2.1
    have hfb := HXb.out.2.2
    have hkb := HXb.out.1
    clear hw
    refine (HBB.out _).mono ?_
    rintro e w4 ⟨rfl, hb⟩
    have hzw4 : w3.heap.size ≤ w4.heap.size := hb.size
    have hzzw4 : w.heap.size ≤ w4.heap.size := by omega
    replace HB : Hid (Below w.heap.size w w4) := below_then HB.out hb HB.out.size
    replace HXa : Hid (NewBox w4 (w.heap.size) [.int .i64 a.num, .int .i64 a.size, .string a.root, .int .i64 a.taken, .string a.troot]) := HXa.out.below hb
    clear hxa hfa hka
    have hxa := HXa.out.2.1
    have hfa := HXa.out.2.2
    have hka := HXa.out.1
    replace HXb : Hid (NewBox w4 (w.heap.size + 1) [.int .i64 b.num, .int .i64 b.size, .string b.root, .int .i64 b.taken, .string b.troot]) := HXb.out.below hb
    clear hxb hfb hkb
    have hxb := HXb.out.2.1
    have hfb := HXb.out.2.2
    have hkb := HXb.out.1
    clear hb
    rcases kb with _ | _
    · go_wp2
      go_ret
      exact ⟨ret_bool (by rw [HF.out]; rfl), HB.out⟩
    · rcases h1 : (a.size == b.size) with _ | _ <;> rcases h2 : (a.root.toList == b.root.toList) with _ | _ <;> rcases h3 : (a.taken == b.taken) with _ | _ <;> rcases h4 : (a.troot.toList == b.troot.toList) with _ | _
      all_goals
        rw [h1, h2, h3, h4] at HP
        have n1 := bne_of_beq h1
        have n2 := bne_of_beq h2
        have n3 := bne_of_beq h3
        have n4 := bne_of_beq h4
        go_wp2
        go_ret
        exact ⟨ret_bool (by rw [HF.out, HP.out]; rfl), HB.out⟩
set_option maxRecDepth 100000 in
set_option maxHeartbeats 4000000 in
theorem specFollows_c (width : Int) (a b : Hd) (w : World) (hz : a.bulk + b.bulk ≤ 1048576) : Calls Try.prog 37 #[.int .i64 width, .agg #[.int .i64 a.num, .int .i64 a.size, .string a.root, .int .i64 a.taken, .string a.troot], .agg #[.int .i64 b.num, .int .i64 b.size, .string b.root, .int .i64 b.taken, .string b.troot]] w fun e w' => e = .returned (.bool (followsM width a b)) ∧ Below w.heap.size w w' := by
  have HA := Lib.hid (fun W => specHeadOk_c width a W (by omega))
  have HBB := Lib.hid (fun W => specHeadOk_c width b W (by omega))
  have HF : Hid (followsM width a b = (headOk width a && headOk width b && !(decide (b.num ≤ a.num) || decide (b.size < a.size) || decide (b.taken < a.taken)) && !partedM a b)) := Lib.hid rfl
  have HP : Hid (partedM a b = partedB (a.size == b.size) (a.root.toList == b.root.toList) (a.taken == b.taken) (a.troot.toList == b.troot.toList)) := Lib.hid rfl
  clear hz
  generalize partedM a b = pm at *
  generalize followsM width a b = fm at *
  generalize headOk width a = ka at *
  generalize headOk width b = kb at *
  have HB : Hid (Below w.heap.size w w) := Below.refl _ _
  go_enter Try.func37, Try.ntmps37
  go_wp2_with fail
  refine calls_named (fun w1 hw => ?_)
  have hz1 : w.heap.size + 2 ≤ w1.heap.size := by rw [hw]; first | omega | (simp [World.setCell]; done) | (simp [World.setCell]; omega)
  have hzz1 : w.heap.size ≤ w1.heap.size := by omega
  replace HB : Hid (Below w.heap.size w w1) := by rw [Hid, hw]; exact (by ((repeat (first | ((with_reducible refine Below.alloc ?_ ?_ _); rotate_left 1; (focus (first | omega | (simp; done) | (simp; omega)))) | (with_reducible refine Below.drew ?_) | ((with_reducible refine Below.setCell ?_ ?_ _); rotate_left 1; (focus (first | omega | (simp; done) | (simp; omega)))))); exact HB.out))
  have HXa : Hid (NewBox w1 (w.heap.size) [.int .i64 a.num, .int .i64 a.size, .string a.root, .int .i64 a.taken, .string a.troot]) := by rw [Hid, hw]; exact ⟨by first | omega | (simp [World.setCell]; done) | (simp [World.setCell]; omega), fun o => by rcases o with _ | _ | _ | _ | _ | o <;> go_simp, fun o => by go_simp⟩
  have hxa := HXa.out.2.1
  have hfa := HXa.out.2.2
  have hka := HXa.out.1
  have HXb : Hid (NewBox w1 (w.heap.size + 1) [.int .i64 b.num, .int .i64 b.size, .string b.root, .int .i64 b.taken, .string b.troot]) := by rw [Hid, hw]; exact ⟨by first | omega | (simp [World.setCell]; done) | (simp [World.setCell]; omega), fun o => by rcases o with _ | _ | _ | _ | _ | o <;> go_simp, fun o => by go_simp⟩
  have hxb := HXb.out.2.1
  have hfb := HXb.out.2.2
  have hkb := HXb.out.1
  clear hw
  refine (HA.out _).mono ?_
  rintro e w2 ⟨rfl, hb⟩
  have hzw2 : w1.heap.size ≤ w2.heap.size := hb.size
  have hzzw2 : w.heap.size ≤ w2.heap.size := by omega
  replace HB : Hid (Below w.heap.size w w2) := below_then HB.out hb HB.out.size
  replace HXa : Hid (NewBox w2 (w.heap.size) [.int .i64 a.num, .int .i64 a.size, .string a.root, .int .i64 a.taken, .string a.troot]) := HXa.out.below hb
  clear hxa hfa hka
  have hxa := HXa.out.2.1
  have hfa := HXa.out.2.2
  have hka := HXa.out.1
  replace HXb : Hid (NewBox w2 (w.heap.size + 1) [.int .i64 b.num, .int .i64 b.size, .string b.root, .int .i64 b.taken, .string b.troot]) := HXb.out.below hb
  clear hxb hfb hkb
  have hxb := HXb.out.2.1
  have hfb := HXb.out.2.2
  have hkb := HXb.out.1
  clear hb
  rcases ka with _ | _
  · go_wp2
    go_ret
    exact ⟨ret_bool (by rw [HF.out]; rfl), HB.out⟩
  · go_wp2_with fail
    refine calls_named (fun w3 hw => ?_)
    have hz3 : w2.heap.size + 0 ≤ w3.heap.size := by rw [hw]; first | omega | (simp [World.setCell]; done) | (simp [World.setCell]; omega)
    have hzz3 : w.heap.size ≤ w3.heap.size := by omega
    replace HB : Hid (Below w.heap.size w w3) := by rw [Hid, hw]; exact (by ((repeat (first | ((with_reducible refine Below.alloc ?_ ?_ _); rotate_left 1; (focus (first | omega | (simp; done) | (simp; omega)))) | (with_reducible refine Below.drew ?_) | ((with_reducible refine Below.setCell ?_ ?_ _); rotate_left 1; (focus (first | omega | (simp; done) | (simp; omega)))))); exact HB.out))
    replace HXa : Hid (NewBox w3 (w.heap.size) [.int .i64 a.num, .int .i64 a.size, .string a.root, .int .i64 a.taken, .string a.troot]) := by rw [Hid, hw]; (repeat (first | (with_reducible refine NewBox.alloc ?_ _) | (with_reducible refine NewBox.drew ?_) | ((with_reducible refine NewBox.setCell ?_ ?_ _); rotate_left 1; (focus (first | omega | (simp; done) | (simp; omega)))))); exact HXa.out
    clear hxa hfa hka
    have hxa := HXa.out.2.1
    have hfa := HXa.out.2.2
    have hka := HXa.out.1
    replace HXb : Hid (NewBox w3 (w.heap.size + 1) [.int .i64 b.num, .int .i64 b.size, .string b.root, .int .i64 b.taken, .string b.troot]) := by rw [Hid, hw]; (repeat (first | (with_reducible refine NewBox.alloc ?_ _) | (with_reducible refine NewBox.drew ?_) | ((with_reducible refine NewBox.setCell ?_ ?_ _); rotate_left 1; (focus (first | omega | (simp; done) | (simp; omega)))))); exact HXb.out
    clear hxb hfb hkb
    have hxb := HXb.out.2.1
    have hfb := HXb.out.2.2
    have hkb := HXb.out.1
    clear hw
    refine (HBB.out _).mono ?_
    rintro e w4 ⟨rfl, hb⟩
    have hzw4 : w3.heap.size ≤ w4.heap.size := hb.size
    have hzzw4 : w.heap.size ≤ w4.heap.size := by omega
    replace HB : Hid (Below w.heap.size w w4) := below_then HB.out hb HB.out.size
    replace HXa : Hid (NewBox w4 (w.heap.size) [.int .i64 a.num, .int .i64 a.size, .string a.root, .int .i64 a.taken, .string a.troot]) := HXa.out.below hb
    clear hxa hfa hka
    have hxa := HXa.out.2.1
    have hfa := HXa.out.2.2
    have hka := HXa.out.1
    replace HXb : Hid (NewBox w4 (w.heap.size + 1) [.int .i64 b.num, .int .i64 b.size, .string b.root, .int .i64 b.taken, .string b.troot]) := HXb.out.below hb
    clear hxb hfb hkb
    have hxb := HXb.out.2.1
    have hfb := HXb.out.2.2
    have hkb := HXb.out.1
    clear hb
    rcases kb with _ | _
    · go_wp2
      go_ret
      exact ⟨ret_bool (by rw [HF.out]; rfl), HB.out⟩
    · by_cases d1 : b.num ≤ a.num
      · go_wp2
        go_ret
        exact ⟨ret_bool (by rw [HF.out]; simp [d1]), HB.out⟩
      · by_cases d2 : b.size < a.size
        · go_wp2
          go_ret
          exact ⟨ret_bool (by rw [HF.out]; simp [d2]), HB.out⟩
        · by_cases d3 : b.taken < a.taken
          · go_wp2
            go_ret
            exact ⟨ret_bool (by rw [HF.out]; simp [d3]), HB.out⟩
          · have H1 : Hid (decide (b.num ≤ a.num) = false ∧ decide (b.size < a.size) = false ∧ decide (b.taken < a.taken) = false) := ⟨decide_eq_false (by omega), decide_eq_false (by omega), decide_eq_false (by omega)⟩
            rcases h1 : (a.size == b.size) with _ | _ <;> rcases h2 : (a.root.toList == b.root.toList) with _ | _ <;> rcases h3 : (a.taken == b.taken) with _ | _ <;> rcases h4 : (a.troot.toList == b.troot.toList) with _ | _
            all_goals
              rw [h1, h2, h3, h4] at HP
              have n1 := bne_of_beq h1
              have n2 := bne_of_beq h2
              have n3 := bne_of_beq h3
              have n4 := bne_of_beq h4
              go_wp2
              go_ret
              exact ⟨ret_bool (by rw [HF.out, HP.out, H1.out.1, H1.out.2.1, H1.out.2.2]; rfl), HB.out⟩
end Go.Proofs.Ytojjjhbiccgjkaa
