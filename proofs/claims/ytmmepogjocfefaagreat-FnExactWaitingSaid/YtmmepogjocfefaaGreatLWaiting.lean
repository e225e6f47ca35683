/- FnExactWaiting holds: for every broker the program Waiting answers as the reference does. No condition. -/
import Derived.Test.YtmmepogjocfefaaGreatKWaiting
import Derived.Test.YtmmepogjocfefaaGreatWait
namespace Go.Proofs.YtmmepogjocfefaaGreat
set_option linter.unusedVariables false
set_option linter.unusedSimpArgs false
theorem holds_Waiting : Rows.FnExactWaitingSaid :=
  said_Waiting (fun z z1 z2 h es rs hs l1 l2 => wt1 z es rs hs z1 l1 z2 l2 h) (fun z z1 z2 h es rs hs l1 l2 => wt2 z es rs hs z1 l1 z2 l2 h)
    (fun z z1 z2 h es rs hs l1 l2 _ _ _ hf he hr hh hb B0 g0 a0 b0 B1 g1 a1 b1 B2 g2 a2 b2 B3 g3 a3 b3 B4 g4 a4 b4 W r0 e0 r1 e1 r2 e2 r3 e3 r4 e4 => specWaiting_c z z1 z2 B0 B1 B2 B3 B4 _ _ _ g0 g1 g2 g3 g4 a0 b0 a1 b1 a2 b2 a3 b3 a4 b4 _ _ es rs hs l1 l2 h W r0 r1 r2 r3 r4 rfl rfl rfl rfl rfl (by omega) (by omega) (by omega) (by omega) (by omega) (by omega) (by omega) (by omega) he hr hh hf (by omega))
    (fun z z1 z2 h es rs hs l1 l2 _ _ _ hf he hr hh hb B0 g0 a0 b0 B1 g1 a1 b1 B2 g2 a2 b2 B3 g3 a3 b3 B4 g4 a4 b4 W r0 e0 r1 e1 r2 e2 r3 e3 r4 e4 => implWaiting_c z z1 z2 B0 B1 B2 B3 B4 _ _ _ g0 g1 g2 g3 g4 a0 b0 a1 b1 a2 b2 a3 b3 a4 b4 _ _ es rs hs l1 l2 h W r0 r1 r2 r3 r4 rfl rfl rfl rfl rfl (by omega) (by omega) (by omega) (by omega) (by omega) (by omega) (by omega) (by omega) he hr hh hf (by omega))
end Go.Proofs.YtmmepogjocfefaaGreat
