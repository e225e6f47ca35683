/- FnExactSealNew holds: for every width the program SealNew answers as the reference does. No condition. -/
import Derived.Test.YtojjjhbiccgjkaaKSealNew
import Derived.Test.YtojjjhbiccgjkaaSealN
namespace Go.Proofs.Ytojjjhbiccgjkaa
set_option linter.unusedVariables false
set_option linter.unusedSimpArgs false
theorem holds_SealNew : Rows.FnExactSealNewSaid :=
  said_SealNew (fun _ => 0) (fun _ => 0) headNew (fun _ => []) (fun _ => []) (fun z => inR z 1 32)
    (fun z _ W => (specSealNew_c z W).mono fun _ W' ⟨he, hb⟩ => ⟨none, 0, W'.heap.size, W'.heap.size, none, 0, W'.heap.size, W'.heap.size, he, ⟨hb.size, Nat.le_refl _, Own.nil⟩, ⟨hb.size, Nat.le_refl _, Own.nil⟩, .inl (Nat.le_refl _), hb⟩)
    (fun z _ W => (implSealNew_c z W).mono fun _ W' ⟨he, hb⟩ => ⟨none, 0, W'.heap.size, W'.heap.size, none, 0, W'.heap.size, W'.heap.size, he, ⟨hb.size, Nat.le_refl _, Own.nil⟩, ⟨hb.size, Nat.le_refl _, Own.nil⟩, .inl (Nat.le_refl _), hb⟩)
    (fun _ _ => Nat.zero_le _) (fun _ _ => Nat.zero_le _)
end Go.Proofs.Ytojjjhbiccgjkaa
