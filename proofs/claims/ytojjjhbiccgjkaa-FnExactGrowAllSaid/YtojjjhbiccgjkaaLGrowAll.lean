/- FnExactGrowAll holds: for every width, range and list of leaves the program GrowAll answers as the reference does. No condition. -/
import Derived.Test.YtojjjhbiccgjkaaKGrowAll
import Derived.Test.YtojjjhbiccgjkaaGrw4
namespace Go.Proofs.Ytojjjhbiccgjkaa
set_option linter.unusedVariables false
set_option linter.unusedSimpArgs false
theorem gPeaks_len (w z : Int) (l v : List ByteArray) : (gPeaks w z l v).length ≤ 2000000 := by
  rw [gPeaks]; split
  · rename_i h
    rw [growOk, Bool.and_eq_true, Bool.and_eq_true] at h
    obtain ⟨h1, h2, h3, h4, h5⟩ := rngOk_all h.1.1
    have h6 := of_decide_eq_true h.2
    have h7 : l.length = popN z.toNat := by rw [h3, ← popC_nat (by omega)]; congr 1; omega
    rw [growUp_len h7 (by omega)]
    have := popUp_le (z.toNat + v.length) 10
    show popUp _ 10 ≤ _
    omega
  · exact Nat.zero_le _
theorem holds_GrowAll : Rows.FnExactGrowAllSaid :=
  said_GrowAll gSize gPeaks gCalls growOk
    (fun z z1 l v _ hz1 hb B g lo hi B2 g2 lo2 hi2 W hr hg hr2 hg2 => specGrowAll_c z z1 B g lo hi _ l B2 g2 lo2 hi2 _ v W hr rfl (by omega) (Rd.cap0 hr strs_pos hg) hr2 rfl (by omega) hz1)
    (fun z z1 l v _ hz1 hb B g lo hi B2 g2 lo2 hi2 W hr hg hr2 hg2 => implGrowAll_c z z1 B g lo hi _ l B2 g2 lo2 hi2 _ v W hr rfl (by omega) (Rd.cap0 hr strs_pos hg) hr2 rfl (by omega) hz1)
    (fun z z1 l v _ _ _ => gPeaks_len z z1 l v)
end Go.Proofs.Ytojjjhbiccgjkaa
