/- CallsMost, Raws, WriteOk, DiskNew. -/
import Derived.Test.YtjmhebmjlnianaaNum
import Derived.Test.YtjmhebmjlnianaaWDisk
import Derived.Test.YtjmhebmjlnianaaSWrite
namespace Go.Proofs.Ytjmhebmjlnianaa
set_option linter.unusedVariables false
set_option linter.unusedSimpArgs false
open Go.RowKit

def callsMost (a b : Int) : Int := if inR a 0 512 && inR b 0 512 then a + b + 36 else -1
set_option maxRecDepth 100000 in
set_option maxHeartbeats 400000 in
theorem specCallsMost_c (a b : Int) (w : World) (ha : I64 a) (hb : I64 b) : Calls Try.prog 18 #[.int .i64 a, .int .i64 b] w fun e w' => e = .returned (.int .i64 (callsMost a b)) ∧ Below w.heap.size w w' := by
  obtain ⟨ha1, ha2⟩ := ha
  obtain ⟨hb1, hb2⟩ := hb
  go_enter Try.func18, Try.ntmps18
  go_wp2_with fail
  refine (l04Size_c a _).mono ?_
  rintro e w1 ⟨rfl, rfl⟩
  rcases h1 : inR a 0 512 with _ | _
  · go_wp2
    go_ret
    exact ⟨ret_int (by rw [callsMost, h1]; rfl), Below.refl _ _⟩
  · have k1 := inR_true.1 h1
    go_wp2_with fail
    refine (l04Size_c b _).mono ?_
    rintro e w1 ⟨rfl, rfl⟩
    rcases h2 : inR b 0 512 with _ | _
    · go_wp2
      go_ret
      exact ⟨ret_int (by rw [callsMost, h1, h2]; rfl), Below.refl _ _⟩
    · have k2 := inR_true.1 h2
      go_wp2
      go_ret
      exact ⟨ret_int (by rw [callsMost, h1, h2]; rfl), Below.refl _ _⟩
set_option maxRecDepth 100000 in
set_option maxHeartbeats 400000 in
theorem implCallsMost_c (a b : Int) (w : World) (ha : I64 a) (hb : I64 b) : Calls Try.prog 19 #[.int .i64 a, .int .i64 b] w fun e w' => e = .returned (.int .i64 (callsMost a b)) ∧ Below w.heap.size w w' := by
  obtain ⟨ha1, ha2⟩ := ha
  obtain ⟨hb1, hb2⟩ := hb
  go_enter Try.func19, Try.ntmps19
  go_wp2_with fail
  refine (isSize_c a _).mono ?_
  rintro e w1 ⟨rfl, rfl⟩
  rcases h1 : inR a 0 512 with _ | _
  · go_wp2
    go_ret
    exact ⟨ret_int (by rw [callsMost, h1]; rfl), Below.refl _ _⟩
  · have k1 := inR_true.1 h1
    go_wp2_with fail
    refine (isSize_c b _).mono ?_
    rintro e w1 ⟨rfl, rfl⟩
    rcases h2 : inR b 0 512 with _ | _
    · go_wp2
      go_ret
      exact ⟨ret_int (by rw [callsMost, h1, h2]; rfl), Below.refl _ _⟩
    · have k2 := inR_true.1 h2
      go_wp2
      go_ret
      exact ⟨ret_int (by rw [callsMost, h1, h2]; rfl), Below.refl _ _⟩

def raws (l : List Wri) : Int := if l.length ≤ 600 then (sumBy Wri.bulk l : Nat) else 0

set_option maxRecDepth 100000 in
set_option maxHeartbeats 400000 in
theorem implRaws_c (A : Option Addr) (c lo hi n : Nat) (l : List Wri) (w : World) (hr : Rd w lo hi A (wris l)) (hn : l.length = n) (hb : n + sumBy Wri.bulk l ≤ 1048576) :
    Calls Try.prog 32 #[.slice A n c] w fun e w' => e = .returned (.int .i64 (raws l)) ∧ Below w.heap.size w w' := by
  have HN := Lib.hid hn
  have HBK := Lib.hid hb
  have hl : n ≤ 1048576 := by omega
  clear hn hb
  go_enter Try.func32, Try.ntmps32
  by_cases h6 : n ≤ 600
  · go_wp2
    go_loopw [3, 11] (fun s i wr => ∃ k : Nat, k ≤ n ∧ i = .int .i64 k ∧ s = .int .i64 (sumBy Wri.bulk (l.take k) : Nat) ∧ Below w.heap.size w wr) (fun _ i _ => n - (intOf i).toNat)
    case atStart => exact ⟨0, Nat.zero_le _, rfl, rfl, Below.refl _ _⟩
    case round =>
      obtain ⟨k, hk, rfl, rfl, hb0⟩ := hrel
      by_cases hlt : k < n
      · obtain ⟨b, off, x, rfl, _, _, hb, hks, hcell⟩ := (hr.below hb0).flat (f := Wri.cells) (m := 3) (fun _ => rfl) (by omega) (k := k) (by rw [HN.out]; exact hlt)
        have hc0 : wr.cell? ⟨b, off + k * 3, none⟩ = some (.int .i64 x.file) := hcell 0 _ rfl
        have hc1 : wr.cell? ⟨b, off + k * 3 + 1, none⟩ = some (.int .i64 x.pos) := hcell 1 _ rfl
        have hc2 : wr.cell? ⟨b, off + k * 3 + 2, none⟩ = some (.string x.text) := hcell 2 _ rfl
        have hs1 := sumBy_take_le Wri.bulk l k
        have hs2 := sumBy_get Wri.bulk hks
        have hb1 := HBK.out
        have hx : x.text.size ≤ 1048576 := by have : x.bulk = x.text.size := rfl; omega
        have hsum : sumBy Wri.bulk (l.take k) ≤ 1048576 := by omega
        have HS := Lib.hid (sumBy_take Wri.bulk hks)
        have HB0 := Lib.hid hb0
        clear hcell hks hb0 hr hs1 hs2 hb1
        generalize hz : sumBy Wri.bulk (l.take k) = z at *
        have HZ := Lib.hid hz
        clear hz
        go_wp2
        go_roundw
        case rel => exact ⟨k + 1, by omega, by go_num, by have := HS.out; rw [this]; show Value.int _ _ = Value.int _ ((z + x.text.size : Nat) : Int); go_num, HB0.out.alloc HB0.out.size _⟩
        case measure => simp [intOf]; omega
      · obtain rfl : k = n := by omega
        have HB0 := Lib.hid hb0
        clear hb0
        go_wp2
        go_ret
        exact ⟨ret_int (by rw [raws, if_pos (by rw [HN.out]; exact h6), ← HN.out, List.take_length]), HB0.out⟩
  · go_wp2
    go_ret
    exact ⟨ret_int (by rw [raws, if_neg (by rw [HN.out]; exact h6)]), Below.refl _ _⟩

set_option maxRecDepth 100000 in
set_option maxHeartbeats 400000 in
theorem specRaws_c (A : Option Addr) (c lo hi n : Nat) (l : List Wri) (w : World) (hr : Rd w lo hi A (wris l)) (hn : l.length = n) (hb : n + sumBy Wri.bulk l ≤ 1048576) :
    Calls Try.prog 30 #[.slice A n c] w fun e w' => e = .returned (.int .i64 (raws l)) ∧ Below w.heap.size w w' := by
  have HN := Lib.hid hn
  have HBK := Lib.hid hb
  have hl : n ≤ 1048576 := by omega
  clear hn hb
  go_enter Try.func30, Try.ntmps30
  by_cases h6 : n ≤ 600
  · go_wp2
    go_loop [3, 4] (fun s i => ∃ k : Nat, k ≤ n ∧ i = .int .i64 k ∧ s = .int .i64 (sumBy Wri.bulk (l.take k) : Nat)) (fun _ i => n - (intOf i).toNat)
    case atStart => exact ⟨0, Nat.zero_le _, rfl, rfl⟩
    case round =>
      obtain ⟨k, hk, rfl, rfl⟩ := hrel
      by_cases hlt : k < n
      · obtain ⟨b, off, x, rfl, _, _, hb, hks, hcell⟩ := hr.flat (f := Wri.cells) (m := 3) (fun _ => rfl) (by omega) (k := k) (by rw [HN.out]; exact hlt)
        have hc2 : w.cell? ⟨b, off + k * 3 + 2, none⟩ = some (.string x.text) := hcell 2 _ rfl
        have hs1 := sumBy_take_le Wri.bulk l k
        have hs2 := sumBy_get Wri.bulk hks
        have hb1 := HBK.out
        have hx : x.text.size ≤ 1048576 := by have : x.bulk = x.text.size := rfl; omega
        have hsum : sumBy Wri.bulk (l.take k) ≤ 1048576 := by omega
        have HS := Lib.hid (sumBy_take Wri.bulk hks)
        clear hcell hks hr hs1 hs2 hb1
        generalize hz : sumBy Wri.bulk (l.take k) = z at *
        have HZ := Lib.hid hz
        clear hz
        go_wp2
        go_round
        case rel => exact ⟨k + 1, by omega, by go_num, by have := HS.out; rw [this]; show Value.int _ _ = Value.int _ ((z + x.text.size : Nat) : Int); go_num⟩
        case measure => simp [intOf]; omega
      · obtain rfl : k = n := by omega
        go_wp2
        go_ret
        exact ⟨ret_int (by rw [raws, if_pos (by rw [HN.out]; exact h6), ← HN.out, List.take_length]), Below.refl _ _⟩
  · go_wp2
    refine wp_loop_once ?_
    go_wp2
    go_ret
    exact ⟨ret_int (by rw [raws, if_neg (by rw [HN.out]; exact h6)]), Below.refl _ _⟩
end Go.Proofs.Ytjmhebmjlnianaa
