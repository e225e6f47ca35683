/- l02First of the reference. -/
import Derived.Test.YtojjjhbiccgjkaaRef3
namespace Go.Proofs.Ytojjjhbiccgjkaa
set_option linter.unusedVariables false
set_option linter.unusedSimpArgs false
open Go.RowKit

set_option maxRecDepth 100000 in
set_option maxHeartbeats 400000 in
theorem l02First_c (width : Nat) (A : Option Addr) (c lo hi : Nat) (l : List Int) (w : World) (hw : width ≤ 32) (hl : Wds 8 l) (hr : Rd w lo hi A (ws l)) :
    Calls Try.prog 160 #[.int .i64 width, .slice A 8 c] w fun e w' => e = .returned (.string (chainT width l)) ∧ Below w.heap.size w w' := by
  have hsz : (textT l).size = 32 := by rw [textT_size, hl.1]
  have hC : chainT width l = (textT l).extract 0 width := rfl
  have HC := Lib.hid hC
  have hsz2 : ((textT l).size : Int) = 32 := by omega
  have hT := fun W (h : Rd W lo hi A (ws l)) => specTextOf_c A c lo hi 8 l W h hl.1 (by omega) (by omega) hl.2
  have HT := Lib.hid hT
  have HR := Lib.hid hr
  have hw2 : (width : Int) ≤ 32 := by omega
  clear hl hC hT hr hsz
  generalize textT l = tx at *
  go_enter Try.func160, Try.ntmps160
  go_wp2_with fail
  refine (HT.out _ HR.out).mono ?_
  rintro e w1 ⟨rfl, hb1⟩
  have HB := Lib.hid hb1
  clear hb1
  go_wp2
  go_ret
  exact ⟨by rw [HC.out]; rfl, HB.out⟩
end Go.Proofs.Ytojjjhbiccgjkaa
