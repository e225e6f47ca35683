/- FnExactGrow holds: for every width, range and leaf the program Grow answers as the reference does. No condition. -/
import Derived.Test.YtojjjhbiccgjkaaKGrow
import Derived.Test.YtojjjhbiccgjkaaGrw4
namespace Go.Proofs.Ytojjjhbiccgjkaa
set_option linter.unusedVariables false
set_option linter.unusedSimpArgs false
theorem gPeaks_len1 (w z : Int) (l : List ByteArray) (s : ByteArray) : (gPeaks w z l [s]).length ≤ 2000000 := by
  rw [gPeaks]; split
  · rename_i h
    rw [growOk, Bool.and_eq_true, Bool.and_eq_true] at h
    obtain ⟨h1, h2, h3, h4, h5⟩ := rngOk_all h.1.1
    have h6 := of_decide_eq_true h.2
    have h7 : l.length = popN z.toNat := by rw [h3, ← popC_nat (by omega)]; congr 1; omega
    rw [growUp_len h7 (by omega)]
    have := popUp_le (z.toNat + [s].length) 10
    show popUp _ 10 ≤ _
    omega
  · exact Nat.zero_le _
theorem holds_Grow : Rows.FnExactGrowSaid :=
  said_Grow (fun z z1 l s => gSize z z1 l [s]) (fun z z1 l s => gPeaks z z1 l [s]) (fun z z1 l s => gCalls z z1 l [s]) (fun z z1 l s => growOk z z1 l [s])
    (fun z z1 l s _ hz1 hb1 hb2 B g lo hi W hr hg => specGrow_c z z1 B g lo hi _ l s W hr rfl (by omega) (Rd.cap0 hr strs_pos hg) (by omega) hz1)
    (fun z z1 l s _ hz1 hb1 hb2 B g lo hi W hr hg => implGrow_c z z1 B g lo hi _ l s W hr rfl (by omega) (Rd.cap0 hr strs_pos hg) (by omega) hz1)
    (fun z z1 l s _ _ _ _ => gPeaks_len1 z z1 l s)
end Go.Proofs.Ytojjjhbiccgjkaa
