/- FnExactHeadFrom holds: for every broker and all sizes the program HeadFrom answers as the reference does. No condition. -/
import Derived.Test.YtmmepogjocfefaaGreatKHeadFrom
import Derived.Test.YtmmepogjocfefaaGreatHf2
namespace Go.Proofs.YtmmepogjocfefaaGreat
set_option linter.unusedVariables false
set_option linter.unusedSimpArgs false
theorem hfL_len (z z1 z2 : Int) (h : Hd) (es : List Ent) (rs : List Rcp) (hs : List Hd) (l1 l2 : List ByteArray) (a c : Int) : (hfL1 z es rs hs z1 l1 z2 l2 h a c).length ≤ 2000000 ∧ (hfL2 z es rs hs z1 l1 z2 l2 h a c).length ≤ 2000000 := by
 constructor
 ·rw [hfL1]
  split
  ·rw [fr1, btL1]
   split
   ·exact Nat.le_trans conTx_len (by omega)
   ·exact Nat.zero_le _
  ·exact Nat.zero_le _
 ·rw [hfL2]
  split
  ·rw [fr2, btL2]
   split
   ·exact Nat.le_trans conTx_len (by omega)
   ·exact Nat.zero_le _
  ·exact Nat.zero_le _
theorem holds_HeadFrom : Rows.FnExactHeadFromSaid :=
 said_HeadFrom (fun z z1 z2 h es rs hs l1 l2 a c => hfH z es rs hs z1 l1 z2 l2 h a c) (fun z z1 z2 h es rs hs l1 l2 a c => hfL1 z es rs hs z1 l1 z2 l2 h a c) (fun z z1 z2 h es rs hs l1 l2 a c => hfL2 z es rs hs z1 l1 z2 l2 h a c) (fun z z1 z2 h es rs hs l1 l2 a c => hfC z es rs hs z1 l1 z2 l2 h a c)
  (fun z z1 z2 h es rs hs l1 l2 a c _ _ _ hf he hr hh _ _ hb B0 g0 a0 b0 B1 g1 a1 b1 B2 g2 a2 b2 B3 g3 a3 b3 B4 g4 a4 b4 W r0 e0 r1 e1 r2 e2 r3 e3 r4 e4 => specHeadFrom_c a c z z1 z2 B0 B1 B2 B3 B4 _ _ _ g0 g1 g2 g3 g4 a0 b0 a1 b1 a2 b2 a3 b3 a4 b4 _ _ es rs hs l1 l2 h W r0 r1 r2 r3 r4 rfl rfl rfl rfl rfl (by omega) (by omega) (by omega) (by omega) (by omega) (by omega) (by omega) (by omega) he hr hh hf (by omega))
  (fun z z1 z2 h es rs hs l1 l2 a c _ _ _ hf he hr hh _ _ hb B0 g0 a0 b0 B1 g1 a1 b1 B2 g2 a2 b2 B3 g3 a3 b3 B4 g4 a4 b4 W r0 e0 r1 e1 r2 e2 r3 e3 r4 e4 => implHeadFrom_c a c z z1 z2 B0 B1 B2 B3 B4 _ _ _ g0 g1 g2 g3 g4 a0 b0 a1 b1 a2 b2 a3 b3 a4 b4 _ _ es rs hs l1 l2 h W r0 r1 r2 r3 r4 rfl rfl rfl rfl rfl (by omega) (by omega) (by omega) (by omega) (by omega) (by omega) (by omega) (by omega) he hr hh hf (by omega))
  (fun z z1 z2 h es rs hs l1 l2 a c _ _ _ _ _ _ _ _ _ _ => (hfL_len z z1 z2 h es rs hs l1 l2 a c).1)
  (fun z z1 z2 h es rs hs l1 l2 a c _ _ _ _ _ _ _ _ _ _ => (hfL_len z z1 z2 h es rs hs l1 l2 a c).2)
end Go.Proofs.YtmmepogjocfefaaGreat
