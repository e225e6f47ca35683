/- The types of this program as arguments. Written by gen_open.py. -/
import Derived.Test.YtoccjgcokffkbaaFlat
import Derived.Test.YtoccjgcokffkbaaData
import Derived.Test.YtoccjgcokffkbaaRows
import Derived.WalkKit
import Derived.ProofKit
import Derived.OpenShut
import Derived.ChangeOld
namespace Go.Proofs.Ytoccjgcokffkbaa
set_option linter.unusedVariables false
set_option linter.unusedSimpArgs false
open Go.RowKit Go.WideShapes Go.Deep

theorem Try.own : ownKnob Try.prog.godebug = none := by kernel_rfl
theorem Try.laidOut : laidOutB Try.prog = true := by kernel_rfl

section
variable {H : Type} {enc : TypeId × Value → H} {w : World} {spare : Nat → Bool} {held : Bool}

theorem strs_flat (l : List ByteArray) : l.flatMap (fun s => [Value.string s]) = strs l := by
 induction l with
 | nil => rfl
 | cons a l ih => simpa [strs] using ih
theorem ints_flat (l : List Int) : l.flatMap (fun s => [Value.int .i64 s]) = ints l := by
 induction l with
 | nil => rfl
 | cons a l ih => simpa [ints] using ih
/-- bytes as cells -/
def u8s (l : List Int) : List Value := l.flatMap fun s => [Value.int .u8 s]

/-- what a slice that came in is -/
def Lst (w : World) (A : Option Addr) (n c : Nat) (len : Nat) (cells : List Value) : Prop :=
 len = n ∧ n ≤ c ∧ c ≤ maxLen ∧ Rd w 0 w.heap.size A cells

set_option maxRecDepth 100000 in
theorem trod_strs {fuel : Nat} {cs : List Value} {r : DataW H × List MemPlace} (h : DataW.trod enc Try.prog w 0 spare held fuel 24 cs = some r) :
  ∃ (A : Option Addr) (n c : Nat) (l : List ByteArray), cs = [.slice A n c] ∧ Lst w A n c l.length (strs l) ∧ ∀ x ∈ l, x.size ≤ maxLen := by
 obtain ⟨A, n, c, l, rfl, h1, h2, h3, h4, h5⟩ := open_flat (fun s => [Value.string s]) (fun x => x.size ≤ maxLen) 1 (by omega) (fun _ => rfl) Try.underlying24 (by kernel_rfl) (fun _ _ _ h => trod_str Try.underlying9 h) h
 rw [strs_flat] at h4
 exact ⟨A, n, c, l, rfl, ⟨h1, h2, h3, h4⟩, h5⟩
set_option maxRecDepth 100000 in
theorem trod_ints {fuel : Nat} {cs : List Value} {r : DataW H × List MemPlace} (h : DataW.trod enc Try.prog w 0 spare held fuel 30 cs = some r) :
  ∃ (A : Option Addr) (n c : Nat) (l : List Int), cs = [.slice A n c] ∧ Lst w A n c l.length (ints l) ∧ ∀ x ∈ l, I64 x := by
 obtain ⟨A, n, c, l, rfl, h1, h2, h3, h4, h5⟩ := open_flat (fun s => [Value.int .i64 s]) (fun x => I64 x) 1 (by omega) (fun _ => rfl) Try.underlying30 (by kernel_rfl) (fun _ _ _ h => trod_i64 Try.underlying3 h) h
 rw [ints_flat] at h4
 exact ⟨A, n, c, l, rfl, ⟨h1, h2, h3, h4⟩, h5⟩
set_option maxRecDepth 100000 in
theorem trod_u8s {fuel : Nat} {cs : List Value} {r : DataW H × List MemPlace} (h : DataW.trod enc Try.prog w 0 spare held fuel 22 cs = some r) :
  ∃ (A : Option Addr) (n c : Nat) (l : List Int), cs = [.slice A n c] ∧ Lst w A n c l.length (u8s l) ∧ ∀ x ∈ l, 0 ≤ x ∧ x ≤ 255 := by
 obtain ⟨A, n, c, l, rfl, h1, h2, h3, h4, h5⟩ := open_flat (fun s => [Value.int .u8 s]) (fun x => 0 ≤ x ∧ x ≤ 255) 1 (by omega) (fun _ => rfl) Try.underlying22 (by kernel_rfl) (fun _ _ _ h => trod_u8 Try.underlying5 h) h
 exact ⟨A, n, c, l, rfl, ⟨h1, h2, h3, h4⟩, h5⟩
set_option maxRecDepth 100000 in
theorem open_strs {r : Reach} {b0 : Nat} {v : Value} {d : DataW H} {ps : List MemPlace} (hv : Value.okWide Try.prog w r b0 24 v) (h : DataW.Trod enc Try.prog w 0 spare held 24 v d ps) :
  ∃ (A : Option Addr) (n c : Nat) (l : List ByteArray), v = .slice A n c ∧ Lst w A n c l.length (strs l) ∧ ∀ x ∈ l, x.size ≤ maxLen := by
 obtain ⟨a0, len, cap, rfl⟩ := okWide_slice Try.underlying24 hv
 obtain ⟨fuel, hf⟩ := h
 obtain ⟨A, n, c, l, he, h1, h2⟩ := trod_strs hf
 exact ⟨A, n, c, l, by simpa [Value.cells] using he, h1, h2⟩
set_option maxRecDepth 100000 in
theorem open_u8s {r : Reach} {b0 : Nat} {v : Value} {d : DataW H} {ps : List MemPlace} (hv : Value.okWide Try.prog w r b0 22 v) (h : DataW.Trod enc Try.prog w 0 spare held 22 v d ps) :
  ∃ (A : Option Addr) (n c : Nat) (l : List Int), v = .slice A n c ∧ Lst w A n c l.length (u8s l) ∧ ∀ x ∈ l, 0 ≤ x ∧ x ≤ 255 := by
 obtain ⟨a0, len, cap, rfl⟩ := okWide_slice Try.underlying22 hv
 obtain ⟨fuel, hf⟩ := h
 obtain ⟨A, n, c, l, he, h1, h2⟩ := trod_u8s hf
 exact ⟨A, n, c, l, by simpa [Value.cells] using he, h1, h2⟩
end
end Go.Proofs.Ytoccjgcokffkbaa
