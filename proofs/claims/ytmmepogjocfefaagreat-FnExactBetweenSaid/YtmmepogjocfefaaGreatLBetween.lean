/- FnExactBetween holds: for every broker and all sizes the program Between answers as the reference does. No condition. -/
import Derived.Test.YtmmepogjocfefaaGreatKBetween
import Derived.Test.YtmmepogjocfefaaGreatBtw3
namespace Go.Proofs.YtmmepogjocfefaaGreat
set_option linter.unusedVariables false
set_option linter.unusedSimpArgs false
theorem bwL_len (z z1 z2 : Int) (h : Hd) (es : List Ent) (rs : List Rcp) (hs : List Hd) (l1 l2 : List ByteArray) (a b c d : Int) : (bwL1 z es rs hs z1 l1 z2 l2 h a b c d).length ≤ 2000000 ∧ (bwL2 z es rs hs z1 l1 z2 l2 h a b c d).length ≤ 2000000 := by
  constructor
  · rw [bwL1]
    split
    · rw [btL1]
      split
      · exact Nat.le_trans conTx_len (by omega)
      · exact Nat.zero_le _
    · exact Nat.zero_le _
  · rw [bwL2]
    split
    · rw [btL2]
      split
      · exact Nat.le_trans conTx_len (by omega)
      · exact Nat.zero_le _
    · exact Nat.zero_le _
theorem holds_Between : Rows.FnExactBetweenSaid :=
  said_Between (fun z z1 z2 h es rs hs l1 l2 a b c d => bwL1 z es rs hs z1 l1 z2 l2 h a b c d) (fun z z1 z2 h es rs hs l1 l2 a b c d => bwL2 z es rs hs z1 l1 z2 l2 h a b c d) (fun z z1 z2 h es rs hs l1 l2 a b c d => bwC z es rs hs z1 l1 z2 l2 h a b c d)
    (fun z z1 z2 h es rs hs l1 l2 a b c d _ _ _ hf he hr hh _ _ _ _ hb B0 g0 a0 b0 B1 g1 a1 b1 B2 g2 a2 b2 B3 g3 a3 b3 B4 g4 a4 b4 W r0 e0 r1 e1 r2 e2 r3 e3 r4 e4 => specBetween_c a b c d z z1 z2 B0 B1 B2 B3 B4 _ _ _ g0 g1 g2 g3 g4 a0 b0 a1 b1 a2 b2 a3 b3 a4 b4 _ _ es rs hs l1 l2 h W r0 r1 r2 r3 r4 rfl rfl rfl rfl rfl (by omega) (by omega) (by omega) (by omega) (by omega) (by omega) (by omega) (by omega) he hr hh hf (by omega))
    (fun z z1 z2 h es rs hs l1 l2 a b c d _ _ _ hf he hr hh _ _ _ _ hb B0 g0 a0 b0 B1 g1 a1 b1 B2 g2 a2 b2 B3 g3 a3 b3 B4 g4 a4 b4 W r0 e0 r1 e1 r2 e2 r3 e3 r4 e4 => implBetween_c a b c d z z1 z2 B0 B1 B2 B3 B4 _ _ _ g0 g1 g2 g3 g4 a0 b0 a1 b1 a2 b2 a3 b3 a4 b4 _ _ es rs hs l1 l2 h W r0 r1 r2 r3 r4 rfl rfl rfl rfl rfl (by omega) (by omega) (by omega) (by omega) (by omega) (by omega) (by omega) (by omega) he hr hh hf (by omega))
    (fun z z1 z2 h es rs hs l1 l2 a b c d _ _ _ _ _ _ _ _ _ _ _ _ => (bwL_len z z1 z2 h es rs hs l1 l2 a b c d).1)
    (fun z z1 z2 h es rs hs l1 l2 a b c d _ _ _ _ _ _ _ _ _ _ _ _ => (bwL_len z z1 z2 h es rs hs l1 l2 a b c d).2)
end Go.Proofs.YtmmepogjocfefaaGreat
