/- FnExactBrokerNew holds: for every width the program BrokerNew answers as the reference does. No condition. -/
import Derived.Test.YtojjjhbiccgjkaaKBrokerNew
import Derived.Test.YtojjjhbiccgjkaaSealN
namespace Go.Proofs.Ytojjjhbiccgjkaa
set_option linter.unusedVariables false
set_option linter.unusedSimpArgs false
theorem brH_len (z : Int) : (brH z).length ≤ 2000000 := by
  rw [brH]; split
  · show 1 ≤ 2000000; omega
  · exact Nat.zero_le _
theorem holds_BrokerNew : Rows.FnExactBrokerNewSaid :=
  said_BrokerNew brW (fun _ => 0) (fun _ => 0) headNew (fun _ => []) (fun _ => []) brH (fun _ => []) (fun _ => []) (fun z => inR z 1 32)
    (fun z _ W => (specBrokerNew_c z W).mono fun _ W' ⟨A, c, lo, hi, he, h1, h2, h3, hb⟩ => by
      refine ⟨none, 0, W'.heap.size, W'.heap.size, none, 0, W'.heap.size, W'.heap.size, A, c, lo, hi, none, 0, W'.heap.size, W'.heap.size, none, 0, W'.heap.size, W'.heap.size, he, ⟨hb.size, Nat.le_refl _, Own.nil⟩, ⟨hb.size, Nat.le_refl _, Own.nil⟩, ⟨h1, h2, h3⟩, ⟨hb.size, Nat.le_refl _, Own.nil⟩, ⟨hb.size, Nat.le_refl _, Own.nil⟩, ?_, ?_, ?_, ?_, ?_, ?_, ?_, ?_, ?_, ?_, hb⟩ <;> omega)
    (fun z _ W => (implBrokerNew_c z W).mono fun _ W' ⟨A, c, lo, hi, he, h1, h2, h3, hb⟩ => by
      refine ⟨none, 0, W'.heap.size, W'.heap.size, none, 0, W'.heap.size, W'.heap.size, A, c, lo, hi, none, 0, W'.heap.size, W'.heap.size, none, 0, W'.heap.size, W'.heap.size, he, ⟨hb.size, Nat.le_refl _, Own.nil⟩, ⟨hb.size, Nat.le_refl _, Own.nil⟩, ⟨h1, h2, h3⟩, ⟨hb.size, Nat.le_refl _, Own.nil⟩, ⟨hb.size, Nat.le_refl _, Own.nil⟩, ?_, ?_, ?_, ?_, ?_, ?_, ?_, ?_, ?_, ?_, hb⟩ <;> omega)
    (fun _ _ => Nat.zero_le _) (fun _ _ => Nat.zero_le _) (fun z _ => brH_len z) (fun _ _ => Nat.zero_le _) (fun _ _ => Nat.zero_le _)
end Go.Proofs.Ytojjjhbiccgjkaa
