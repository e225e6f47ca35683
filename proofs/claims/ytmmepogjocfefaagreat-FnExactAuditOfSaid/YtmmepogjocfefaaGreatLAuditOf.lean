/- FnExactAuditOf holds: for every broker, receipt and number the program AuditOf answers as the reference does. No condition. -/
import Derived.Test.YtmmepogjocfefaaGreatKAuditOf
import Derived.Test.YtmmepogjocfefaaGreatAu2
namespace Go.Proofs.YtmmepogjocfefaaGreat
set_option linter.unusedVariables false
set_option linter.unusedSimpArgs false
theorem holds_AuditOf : Rows.FnExactAuditOfSaid :=
 said_AuditOf (fun z z1 z2 h es rs hs l1 l2 r c => aoZ z es rs hs z1 l1 z2 l2 h r c) (fun z z1 z2 h es rs hs l1 l2 r c => aoL z es rs hs z1 l1 z2 l2 h r c) (fun z z1 z2 h es rs hs l1 l2 r c => aoC z es rs hs z1 l1 z2 l2 h r c)
  (fun z z1 z2 h es rs hs l1 l2 r c _ _ _ hf he hr hh hrf _ hb B0 g0 a0 b0 B1 g1 a1 b1 B2 g2 a2 b2 B3 g3 a3 b3 B4 g4 a4 b4 W r0 e0 r1 e1 r2 e2 r3 e3 r4 e4 => (specAuditOf_c r hrf c z z1 z2 B0 B1 B2 B3 B4 _ _ _ g0 g1 g2 g3 g4 a0 b0 a1 b1 a2 b2 a3 b3 a4 b4 _ _ es rs hs l1 l2 h W r0 r1 r2 r3 r4 rfl rfl rfl rfl rfl (by omega) (by omega) (by omega) (by omega) (by omega) (by omega) (by omega) (by omega) he hr hh hf (by omega)).mono (fun _ _ q => let ⟨⟨A, c, h1, h2⟩, h3⟩ := q; ⟨A, c, h1, h2, h3⟩))
  (fun z z1 z2 h es rs hs l1 l2 r c _ _ _ hf he hr hh hrf _ hb B0 g0 a0 b0 B1 g1 a1 b1 B2 g2 a2 b2 B3 g3 a3 b3 B4 g4 a4 b4 W r0 e0 r1 e1 r2 e2 r3 e3 r4 e4 => (implAuditOf_c r hrf c z z1 z2 B0 B1 B2 B3 B4 _ _ _ g0 g1 g2 g3 g4 a0 b0 a1 b1 a2 b2 a3 b3 a4 b4 _ _ es rs hs l1 l2 h W r0 r1 r2 r3 r4 rfl rfl rfl rfl rfl (by omega) (by omega) (by omega) (by omega) (by omega) (by omega) (by omega) (by omega) he hr hh hf (by omega)).mono (fun _ _ q => let ⟨⟨A, c, h1, h2⟩, h3⟩ := q; ⟨A, c, h1, h2, h3⟩))
  (fun z z1 z2 h es rs hs l1 l2 r c _ _ _ _ _ _ _ _ _ _ => Nat.le_trans aoL_len (by omega))
end Go.Proofs.YtmmepogjocfefaaGreat
