/- The types of this program as arguments. -/
import Derived.Test.YtjmhebmjlnianaaFlat
import Derived.Test.YtjmhebmjlnianaaRows
import Derived.WalkKit
import Derived.ProofKit
import Derived.OpenShut
import Derived.ChangeOld
namespace Go.Proofs.Ytjmhebmjlnianaa
set_option linter.unusedVariables false
set_option linter.unusedSimpArgs false
open Go.RowKit Go.WideShapes Go.Deep

theorem Try.own : ownKnob Try.prog.godebug = none := by kernel_rfl
theorem Try.laidOut : laidOutB Try.prog = true := by kernel_rfl

section
variable {H : Type} {enc : TypeId × Value → H} {w : World} {spare : Nat → Bool} {held : Bool}

theorem strs_flat (l : List ByteArray) : l.flatMap (fun s => [Value.string s]) = strs l := by
  induction l with
  | nil => rfl
  | cons a l ih => simpa [strs] using ih

def Strs (w : World) (A : Option Addr) (n c : Nat) (l : List ByteArray) : Prop :=
  l.length = n ∧ n ≤ c ∧ c ≤ maxLen ∧ Rd w 0 w.heap.size A (strs l) ∧ ∀ (k : Nat) (s : ByteArray), l[k]? = some s → s.size ≤ maxLen

set_option maxRecDepth 100000 in
theorem trod_strs {fuel : Nat} {cs : List Value} {r : DataW H × List MemPlace} (h : DataW.trod enc Try.prog w 0 spare held fuel 24 cs = some r) : ∃ A n c l, cs = [.slice A n c] ∧ Strs w A n c l := by
  obtain ⟨A, n, c, l, rfl, h1, h2, h3, h4, h5⟩ := open_flat (fun s => [Value.string s]) (fun s => s.size ≤ maxLen) 1 (by omega) (fun _ => rfl) Try.underlying24 (by kernel_rfl) (fun _ _ _ h => trod_str Try.underlying9 h) h
  rw [strs_flat] at h4
  exact ⟨A, n, c, l, rfl, h1, h2, h3, h4, fun k s hk => h5 s (List.mem_of_getElem? hk)⟩

set_option maxRecDepth 100000 in
theorem open_Disk {r : Reach} {b0 : Nat} {v : Value} {d : DataW H} {ps : List MemPlace} (hv : Value.okWide Try.prog w r b0 31 v) (h : DataW.Trod enc Try.prog w 0 spare held 31 v d ps) :
    ∃ A n c l, v = .agg #[.slice A n c] ∧ Strs w A n c l := by
  obtain ⟨cs, rfl, hsz⟩ := okWide_struct Try.underlying31 hv
  obtain ⟨fuel, hf⟩ := h
  obtain ⟨hl, hg⟩ := trod_fields Try.underlying31 hf
  obtain ⟨cs⟩ := cs
  have hl' : cs.length = 1 := hl
  match cs, hl' with
  | [c0], _ =>
    obtain ⟨n0, y0, h0⟩ := hg 0 _ rfl
    obtain ⟨A, n, c, l, h1, h2⟩ := trod_strs h0
    have e0 : Try.prog.cellsOf 24 = 1 := by kernel_rfl
    obtain rfl : c0 = .slice A n c := by simpa [Value.cells, e0] using h1
    exact ⟨A, n, c, l, rfl, h2⟩
end
end Go.Proofs.Ytjmhebmjlnianaa
