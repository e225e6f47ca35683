/- FnExactSealMore holds: for every width, Seal and hashes the program SealMore answers as the reference does. No condition. -/
import Derived.Test.YtojjjhbiccgjkaaKSealMore
import Derived.Test.YtojjjhbiccgjkaaSealJ
namespace Go.Proofs.Ytojjjhbiccgjkaa
set_option linter.unusedVariables false
set_option linter.unusedSimpArgs false
theorem sm_len (width z1 : Int) (l1 : List ByteArray) (z2 : Int) (l2 : List ByteArray) (h : Hd) (L T : List ByteArray) : (smL1 width z1 l1 z2 l2 h L T).length ≤ 2000000 ∧ (smL2 width z1 l1 z2 l2 h L T).length ≤ 2000000 := by
  rcases hb : smOk width z1 l1 z2 l2 h L T with _ | _
  · obtain ⟨_, h2, _, h4, _⟩ := sm_bad hb
    rw [h2, h4]; exact ⟨Nat.zero_le _, Nat.zero_le _⟩
  · obtain ⟨_, h2, _, h4, _⟩ := sm_good hb
    rw [smOk, Bool.and_eq_true, Bool.and_eq_true, Bool.and_eq_true] at hb
    obtain ⟨⟨⟨q1, q2⟩, q3⟩, q4⟩ := hb
    obtain ⟨u1, u2, _⟩ := sealOk_all q1
    rw [smFit, Bool.and_eq_true, Bool.and_eq_true] at q4
    have v1 := (rng_grow u1 q2 (of_decide_eq_true q4.1.1)).2.1
    have v2 := (rng_grow u2 q3 (of_decide_eq_true q4.1.2)).2.1
    rw [h2, h4]; omega
theorem holds_SealMore : Rows.FnExactSealMoreSaid :=
  said_SealMore (fun z z1 z2 h l1 l2 L T => smZ1 z z1 l1 z2 l2 h L T) (fun z z1 z2 h l1 l2 L T => smZ2 z z1 l1 z2 l2 h L T) (fun z z1 z2 h l1 l2 L T => smH z z1 l1 z2 l2 h L T) (fun z z1 z2 h l1 l2 L T => smL1 z z1 l1 z2 l2 h L T) (fun z z1 z2 h l1 l2 L T => smL2 z z1 l1 z2 l2 h L T)
    (fun z z1 z2 h l1 l2 L T => smN z z1 l1 z2 l2 h L T) (fun z z1 z2 h l1 l2 L T => smCode z z1 l1 z2 l2 h L T)
    (fun z z1 z2 h l1 l2 L T _ i1 i2 hf hb B1 g1 a1 b1 B2 g2 a2 b2 B3 g3 a3 b3 B4 g4 a4 b4 W r1 e1 r2 e2 r3 e3 r4 e4 =>
      specSealMore_c z z1 z2 B1 B2 g1 g2 a1 b1 a2 b2 _ _ l1 l2 h B3 B4 g3 g4 a3 b3 a4 b4 _ _ L T W r1 r2 r3 r4 rfl rfl rfl rfl (by omega) (by omega) (by omega) (by omega) (Rd.cap0 r1 strs_pos e1) (Rd.cap0 r2 strs_pos e2) i1 i2 (by omega))
    (fun z z1 z2 h l1 l2 L T _ i1 i2 hf hb B1 g1 a1 b1 B2 g2 a2 b2 B3 g3 a3 b3 B4 g4 a4 b4 W r1 e1 r2 e2 r3 e3 r4 e4 =>
      implSealMore_c z z1 z2 B1 B2 g1 g2 a1 b1 a2 b2 _ _ l1 l2 h B3 B4 g3 g4 a3 b3 a4 b4 _ _ L T W r1 r2 r3 r4 rfl rfl rfl rfl (by omega) (by omega) (by omega) (by omega) (Rd.cap0 r1 strs_pos e1) (Rd.cap0 r2 strs_pos e2) i1 i2 (by omega))
    (fun z z1 z2 h l1 l2 L T _ _ _ _ _ => (sm_len z z1 l1 z2 l2 h L T).1) (fun z z1 z2 h l1 l2 L T _ _ _ _ _ => (sm_len z z1 l1 z2 l2 h L T).2)
end Go.Proofs.Ytojjjhbiccgjkaa
