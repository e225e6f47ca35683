/- FnExactRangeOf holds: for every width and list of leaves the program RangeOf answers as the reference does. No condition. -/
import Derived.Test.YtojjjhbiccgjkaaKRangeOf
import Derived.Test.YtojjjhbiccgjkaaGrw4
namespace Go.Proofs.Ytojjjhbiccgjkaa
set_option linter.unusedVariables false
set_option linter.unusedSimpArgs false
theorem gPeaks_len0 (w : Int) (v : List ByteArray) : (gPeaks w 0 [] v).length ≤ 2000000 := by
  rw [gPeaks]; split
  · rename_i h
    rw [growOk, Bool.and_eq_true, Bool.and_eq_true] at h
    obtain ⟨h1, h2, h3, h4, h5⟩ := rngOk_all h.1.1
    have h6 := of_decide_eq_true h.2
    have h7 : ([] : List ByteArray).length = popN (0 : Int).toNat := by decide
    rw [growUp_len h7 (by omega)]
    have := popUp_le ((0 : Int).toNat + v.length) 10
    show popUp _ 10 ≤ _
    omega
  · exact Nat.zero_le _
theorem holds_RangeOf : Rows.FnExactRangeOfSaid :=
  said_RangeOf (fun z v => gSize z 0 [] v) (fun z v => gPeaks z 0 [] v) (fun z v => growOk z 0 [] v)
    (fun z v _ hb B g lo hi W hr hg => specRangeOf_c z B g lo hi _ v W hr rfl (by omega)) (fun z v _ hb B g lo hi W hr hg => implRangeOf_c z B g lo hi _ v W hr rfl (by omega))
    (fun z v _ _ => gPeaks_len0 z v)
end Go.Proofs.Ytojjjhbiccgjkaa
