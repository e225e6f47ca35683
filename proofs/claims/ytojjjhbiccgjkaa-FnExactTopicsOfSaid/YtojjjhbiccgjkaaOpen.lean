/- The types of this program as arguments. Written by gen_open.py. -/
import Derived.Test.YtojjjhbiccgjkaaFlat
import Derived.Test.YtojjjhbiccgjkaaData
import Derived.Test.YtojjjhbiccgjkaaRows
import Derived.WalkKit
import Derived.ProofKit
import Derived.OpenShut
import Derived.ChangeOld
namespace Go.Proofs.Ytojjjhbiccgjkaa
set_option linter.unusedVariables false
set_option linter.unusedSimpArgs false
open Go.RowKit Go.WideShapes Go.Deep

theorem Try.own : ownKnob Try.prog.godebug = none := by kernel_rfl
theorem Try.laidOut : laidOutB Try.prog = true := by kernel_rfl

section
variable {H : Type} {enc : TypeId × Value → H} {w : World} {spare : Nat → Bool} {held : Bool}

theorem strs_flat (l : List ByteArray) : l.flatMap (fun s => [Value.string s]) = strs l := by
  induction l with
  | nil => rfl
  | cons a l ih => simpa [strs] using ih
theorem ints_flat (l : List Int) : l.flatMap (fun s => [Value.int .i64 s]) = ints l := by
  induction l with
  | nil => rfl
  | cons a l ih => simpa [ints] using ih
/-- bytes as cells -/
def u8s (l : List Int) : List Value := l.flatMap fun s => [Value.int .u8 s]

/-- what a slice that came in is -/
def Lst (w : World) (A : Option Addr) (n c : Nat) (len : Nat) (cells : List Value) : Prop :=
  len = n ∧ n ≤ c ∧ c ≤ maxLen ∧ Rd w 0 w.heap.size A cells

set_option maxRecDepth 100000 in
theorem trod_strs {fuel : Nat} {cs : List Value} {r : DataW H × List MemPlace} (h : DataW.trod enc Try.prog w 0 spare held fuel 39 cs = some r) :
    ∃ (A : Option Addr) (n c : Nat) (l : List ByteArray), cs = [.slice A n c] ∧ Lst w A n c l.length (strs l) ∧ ∀ x ∈ l, x.size ≤ maxLen := by
  obtain ⟨A, n, c, l, rfl, h1, h2, h3, h4, h5⟩ := open_flat (fun s => [Value.string s]) (fun x => x.size ≤ maxLen) 1 (by omega) (fun _ => rfl) Try.underlying39 (by kernel_rfl) (fun _ _ _ h => trod_str Try.underlying9 h) h
  rw [strs_flat] at h4
  exact ⟨A, n, c, l, rfl, ⟨h1, h2, h3, h4⟩, h5⟩
set_option maxRecDepth 100000 in
theorem trod_ints {fuel : Nat} {cs : List Value} {r : DataW H × List MemPlace} (h : DataW.trod enc Try.prog w 0 spare held fuel 132 cs = some r) :
    ∃ (A : Option Addr) (n c : Nat) (l : List Int), cs = [.slice A n c] ∧ Lst w A n c l.length (ints l) ∧ ∀ x ∈ l, I64 x := by
  obtain ⟨A, n, c, l, rfl, h1, h2, h3, h4, h5⟩ := open_flat (fun s => [Value.int .i64 s]) (fun x => I64 x) 1 (by omega) (fun _ => rfl) Try.underlying132 (by kernel_rfl) (fun _ _ _ h => trod_i64 Try.underlying3 h) h
  rw [ints_flat] at h4
  exact ⟨A, n, c, l, rfl, ⟨h1, h2, h3, h4⟩, h5⟩
set_option maxRecDepth 100000 in
theorem trod_u8s {fuel : Nat} {cs : List Value} {r : DataW H × List MemPlace} (h : DataW.trod enc Try.prog w 0 spare held fuel 119 cs = some r) :
    ∃ (A : Option Addr) (n c : Nat) (l : List Int), cs = [.slice A n c] ∧ Lst w A n c l.length (u8s l) ∧ ∀ x ∈ l, 0 ≤ x ∧ x ≤ 255 := by
  obtain ⟨A, n, c, l, rfl, h1, h2, h3, h4, h5⟩ := open_flat (fun s => [Value.int .u8 s]) (fun x => 0 ≤ x ∧ x ≤ 255) 1 (by omega) (fun _ => rfl) Try.underlying119 (by kernel_rfl) (fun _ _ _ h => trod_u8 Try.underlying5 h) h
  exact ⟨A, n, c, l, rfl, ⟨h1, h2, h3, h4⟩, h5⟩
set_option maxRecDepth 100000 in
theorem trod_Entry {fuel : Nat} {cs : List Value} {r : DataW H × List MemPlace} (h : DataW.trod enc Try.prog w 0 spare held fuel 189 cs = some r) : ∃ e : Ent, cs = e.cells ∧ e.fits := by
  obtain ⟨hl, hg⟩ := trod_fields Try.underlying189 h
  have hl' : cs.length = 5 := hl
  match cs, hl' with
  | [c0, c1, c2, c3, c4], _ =>
    obtain ⟨n0, y0, h0⟩ := hg 0 _ rfl
    obtain ⟨x0, e0, f0⟩ := trod_str Try.underlying9 h0
    have g0 : Try.prog.cellsOf 9 = 1 := by kernel_rfl
    obtain rfl : c0 = .string x0 := by simpa [g0] using e0
    obtain ⟨n1, y1, h1⟩ := hg 1 _ rfl
    obtain ⟨x1, e1, f1⟩ := trod_i64 Try.underlying3 h1
    have g1 : Try.prog.cellsOf 3 = 1 := by kernel_rfl
    obtain rfl : c1 = .int .i64 x1 := by simpa [g1] using e1
    obtain ⟨n2, y2, h2⟩ := hg 2 _ rfl
    obtain ⟨x2, e2, f2⟩ := trod_i64 Try.underlying3 h2
    have g2 : Try.prog.cellsOf 3 = 1 := by kernel_rfl
    obtain rfl : c2 = .int .i64 x2 := by simpa [g2] using e2
    obtain ⟨n3, y3, h3⟩ := hg 3 _ rfl
    obtain ⟨x3, e3, f3⟩ := trod_str Try.underlying9 h3
    have g3 : Try.prog.cellsOf 9 = 1 := by kernel_rfl
    obtain rfl : c3 = .string x3 := by simpa [g3] using e3
    obtain ⟨n4, y4, h4⟩ := hg 4 _ rfl
    obtain ⟨x4, e4, f4⟩ := trod_str Try.underlying9 h4
    have g4 : Try.prog.cellsOf 9 = 1 := by kernel_rfl
    obtain rfl : c4 = .string x4 := by simpa [g4] using e4
    exact ⟨⟨x0, x1, x2, x3, x4⟩, rfl, f1, f2, f0, f3, f4⟩
set_option maxRecDepth 100000 in
theorem open_Entry {r : Reach} {b0 : Nat} {v : Value} {d : DataW H} {ps : List MemPlace} (hv : Value.okWide Try.prog w r b0 189 v) (h : DataW.Trod enc Try.prog w 0 spare held 189 v d ps) :
    ∃ e : Ent, v = .agg e.cells.toArray ∧ e.fits := by
  obtain ⟨cs, rfl, _⟩ := okWide_struct Try.underlying189 hv
  obtain ⟨fuel, hf⟩ := h
  obtain ⟨e, he, hfit⟩ := trod_Entry hf
  obtain ⟨cs⟩ := cs
  have he' : cs = e.cells := he
  exact ⟨e, by rw [he'], hfit⟩
set_option maxRecDepth 100000 in
theorem trod_Head {fuel : Nat} {cs : List Value} {r : DataW H × List MemPlace} (h : DataW.trod enc Try.prog w 0 spare held fuel 31 cs = some r) : ∃ e : Hd, cs = e.cells ∧ e.fits := by
  obtain ⟨hl, hg⟩ := trod_fields Try.underlying31 h
  have hl' : cs.length = 5 := hl
  match cs, hl' with
  | [c0, c1, c2, c3, c4], _ =>
    obtain ⟨n0, y0, h0⟩ := hg 0 _ rfl
    obtain ⟨x0, e0, f0⟩ := trod_i64 Try.underlying3 h0
    have g0 : Try.prog.cellsOf 3 = 1 := by kernel_rfl
    obtain rfl : c0 = .int .i64 x0 := by simpa [g0] using e0
    obtain ⟨n1, y1, h1⟩ := hg 1 _ rfl
    obtain ⟨x1, e1, f1⟩ := trod_i64 Try.underlying3 h1
    have g1 : Try.prog.cellsOf 3 = 1 := by kernel_rfl
    obtain rfl : c1 = .int .i64 x1 := by simpa [g1] using e1
    obtain ⟨n2, y2, h2⟩ := hg 2 _ rfl
    obtain ⟨x2, e2, f2⟩ := trod_str Try.underlying9 h2
    have g2 : Try.prog.cellsOf 9 = 1 := by kernel_rfl
    obtain rfl : c2 = .string x2 := by simpa [g2] using e2
    obtain ⟨n3, y3, h3⟩ := hg 3 _ rfl
    obtain ⟨x3, e3, f3⟩ := trod_i64 Try.underlying3 h3
    have g3 : Try.prog.cellsOf 3 = 1 := by kernel_rfl
    obtain rfl : c3 = .int .i64 x3 := by simpa [g3] using e3
    obtain ⟨n4, y4, h4⟩ := hg 4 _ rfl
    obtain ⟨x4, e4, f4⟩ := trod_str Try.underlying9 h4
    have g4 : Try.prog.cellsOf 9 = 1 := by kernel_rfl
    obtain rfl : c4 = .string x4 := by simpa [g4] using e4
    exact ⟨⟨x0, x1, x2, x3, x4⟩, rfl, f0, f1, f3, f2, f4⟩
set_option maxRecDepth 100000 in
theorem open_Head {r : Reach} {b0 : Nat} {v : Value} {d : DataW H} {ps : List MemPlace} (hv : Value.okWide Try.prog w r b0 31 v) (h : DataW.Trod enc Try.prog w 0 spare held 31 v d ps) :
    ∃ e : Hd, v = .agg e.cells.toArray ∧ e.fits := by
  obtain ⟨cs, rfl, _⟩ := okWide_struct Try.underlying31 hv
  obtain ⟨fuel, hf⟩ := h
  obtain ⟨e, he, hfit⟩ := trod_Head hf
  obtain ⟨cs⟩ := cs
  have he' : cs = e.cells := he
  exact ⟨e, by rw [he'], hfit⟩
set_option maxRecDepth 100000 in
theorem trod_EntryS {fuel : Nat} {cs : List Value} {r : DataW H × List MemPlace} (h : DataW.trod enc Try.prog w 0 spare held fuel 89 cs = some r) :
    ∃ (A : Option Addr) (n c : Nat) (l : List Ent), cs = [.slice A n c] ∧ Lst w A n c l.length (ents l) ∧ ∀ x ∈ l, x.fits := by
  obtain ⟨A, n, c, l, rfl, h1, h2, h3, h4, h5⟩ := open_flat (Ent.cells) (fun x => x.fits) 5 (by omega) (fun _ => rfl) Try.underlying89 (by kernel_rfl) (fun _ _ _ h => trod_Entry h) h
  exact ⟨A, n, c, l, rfl, ⟨h1, h2, h3, h4⟩, h5⟩
set_option maxRecDepth 100000 in
theorem trod_HeadS {fuel : Nat} {cs : List Value} {r : DataW H × List MemPlace} (h : DataW.trod enc Try.prog w 0 spare held fuel 45 cs = some r) :
    ∃ (A : Option Addr) (n c : Nat) (l : List Hd), cs = [.slice A n c] ∧ Lst w A n c l.length (hds l) ∧ ∀ x ∈ l, x.fits := by
  obtain ⟨A, n, c, l, rfl, h1, h2, h3, h4, h5⟩ := open_flat (Hd.cells) (fun x => x.fits) 5 (by omega) (fun _ => rfl) Try.underlying45 (by kernel_rfl) (fun _ _ _ h => trod_Head h) h
  exact ⟨A, n, c, l, rfl, ⟨h1, h2, h3, h4⟩, h5⟩
set_option maxRecDepth 100000 in
theorem trod_Log {fuel : Nat} {cs : List Value} {r : DataW H × List MemPlace} (h : DataW.trod enc Try.prog w 0 spare held fuel 91 cs = some r) :
    ∃ (Aq_0 : Option Addr) (nq_0 cq_0 : Nat) (lq_0 : List Ent), cs = [.slice Aq_0 nq_0 cq_0] ∧ Lst w Aq_0 nq_0 cq_0 lq_0.length (ents lq_0) ∧ (∀ x ∈ lq_0, x.fits) := by
  obtain ⟨hl, hg⟩ := trod_fields Try.underlying91 h
  have hl' : cs.length = 1 := hl
  match cs, hl' with
  | [c0], _ =>
    obtain ⟨n0, y0, h0⟩ := hg 0 _ rfl
    obtain ⟨Aq_0, nq_0, cq_0, lq_0, e0, f0⟩ := trod_EntryS h0
    have g0 : Try.prog.cellsOf 89 = 1 := by kernel_rfl
    obtain rfl : c0 = .slice Aq_0 nq_0 cq_0 := by simpa [g0] using e0
    exact ⟨_, _, _, _, rfl, f0.1, f0.2⟩
set_option maxRecDepth 100000 in
theorem open_Log {r : Reach} {b0 : Nat} {v : Value} {d : DataW H} {ps : List MemPlace} (hv : Value.okWide Try.prog w r b0 91 v) (h : DataW.Trod enc Try.prog w 0 spare held 91 v d ps) :
    ∃ (Aq_0 : Option Addr) (nq_0 cq_0 : Nat) (lq_0 : List Ent), v = .agg #[.slice Aq_0 nq_0 cq_0] ∧ Lst w Aq_0 nq_0 cq_0 lq_0.length (ents lq_0) ∧ (∀ x ∈ lq_0, x.fits) := by
  obtain ⟨cs, rfl, _⟩ := okWide_struct Try.underlying91 hv
  obtain ⟨fuel, hf⟩ := h
  obtain ⟨Aq_0, nq_0, cq_0, lq_0, he, hr⟩ := trod_Log hf
  obtain ⟨cs⟩ := cs
  have he' : cs = _ := he
  exact ⟨Aq_0, nq_0, cq_0, lq_0, by rw [he'], hr⟩
set_option maxRecDepth 100000 in
theorem trod_Range {fuel : Nat} {cs : List Value} {r : DataW H × List MemPlace} (h : DataW.trod enc Try.prog w 0 spare held fuel 65 cs = some r) :
    ∃ (zq_0 : Int) (Aq_0 : Option Addr) (nq_0 cq_0 : Nat) (lq_0 : List ByteArray), cs = [.int .i64 zq_0, .slice Aq_0 nq_0 cq_0] ∧ I64 zq_0 ∧ Lst w Aq_0 nq_0 cq_0 lq_0.length (strs lq_0) ∧ (∀ x ∈ lq_0, x.size ≤ maxLen) := by
  obtain ⟨hl, hg⟩ := trod_fields Try.underlying65 h
  have hl' : cs.length = 2 := hl
  match cs, hl' with
  | [c0, c1], _ =>
    obtain ⟨n0, y0, h0⟩ := hg 0 _ rfl
    obtain ⟨zq_0, e0, f0⟩ := trod_i64 Try.underlying3 h0
    have g0 : Try.prog.cellsOf 3 = 1 := by kernel_rfl
    obtain rfl : c0 = .int .i64 zq_0 := by simpa [g0] using e0
    obtain ⟨n1, y1, h1⟩ := hg 1 _ rfl
    obtain ⟨Aq_0, nq_0, cq_0, lq_0, e1, f1⟩ := trod_strs h1
    have g1 : Try.prog.cellsOf 39 = 1 := by kernel_rfl
    obtain rfl : c1 = .slice Aq_0 nq_0 cq_0 := by simpa [g1] using e1
    exact ⟨_, _, _, _, _, rfl, f0, f1.1, f1.2⟩
set_option maxRecDepth 100000 in
theorem open_Range {r : Reach} {b0 : Nat} {v : Value} {d : DataW H} {ps : List MemPlace} (hv : Value.okWide Try.prog w r b0 65 v) (h : DataW.Trod enc Try.prog w 0 spare held 65 v d ps) :
    ∃ (zq_0 : Int) (Aq_0 : Option Addr) (nq_0 cq_0 : Nat) (lq_0 : List ByteArray), v = .agg #[.int .i64 zq_0, .slice Aq_0 nq_0 cq_0] ∧ I64 zq_0 ∧ Lst w Aq_0 nq_0 cq_0 lq_0.length (strs lq_0) ∧ (∀ x ∈ lq_0, x.size ≤ maxLen) := by
  obtain ⟨cs, rfl, _⟩ := okWide_struct Try.underlying65 hv
  obtain ⟨fuel, hf⟩ := h
  obtain ⟨zq_0, Aq_0, nq_0, cq_0, lq_0, he, hr⟩ := trod_Range hf
  obtain ⟨cs⟩ := cs
  have he' : cs = _ := he
  exact ⟨zq_0, Aq_0, nq_0, cq_0, lq_0, by rw [he'], hr⟩
set_option maxRecDepth 100000 in
theorem trod_Seal {fuel : Nat} {cs : List Value} {r : DataW H × List MemPlace} (h : DataW.trod enc Try.prog w 0 spare held fuel 84 cs = some r) :
    ∃ (zq_0 zq_1 : Int) (dq_0 : Hd) (Aq_0 Aq_1 : Option Addr) (nq_0 cq_0 nq_1 cq_1 : Nat) (lq_0 : List ByteArray) (lq_1 : List ByteArray), cs = [.int .i64 zq_0, .slice Aq_0 nq_0 cq_0, .int .i64 zq_1, .slice Aq_1 nq_1 cq_1, .int .i64 dq_0.num, .int .i64 dq_0.size, .string dq_0.root, .int .i64 dq_0.taken, .string dq_0.troot] ∧ I64 zq_0 ∧ I64 zq_1 ∧ dq_0.fits ∧ Lst w Aq_0 nq_0 cq_0 lq_0.length (strs lq_0) ∧ (∀ x ∈ lq_0, x.size ≤ maxLen) ∧ Lst w Aq_1 nq_1 cq_1 lq_1.length (strs lq_1) ∧ (∀ x ∈ lq_1, x.size ≤ maxLen) := by
  obtain ⟨hl, hg⟩ := trod_fields Try.underlying84 h
  have hl' : cs.length = 9 := hl
  match cs, hl' with
  | [c0, c1, c2, c3, c4, c5, c6, c7, c8], _ =>
    obtain ⟨n0, y0, h0⟩ := hg 0 _ rfl
    obtain ⟨zq_0, Aq_0, nq_0, cq_0, lq_0, e0, fz0_0, fl0_0, fm0_0⟩ := trod_Range h0
    have g0 : Try.prog.cellsOf 65 = 2 := by kernel_rfl
    simp [g0] at e0
    obtain ⟨rfl, rfl⟩ := e0
    obtain ⟨n1, y1, h1⟩ := hg 1 _ rfl
    obtain ⟨zq_1, Aq_1, nq_1, cq_1, lq_1, e1, fz1_0, fl1_0, fm1_0⟩ := trod_Range h1
    have g1 : Try.prog.cellsOf 65 = 2 := by kernel_rfl
    simp [g1] at e1
    obtain ⟨rfl, rfl⟩ := e1
    obtain ⟨n2, y2, h2⟩ := hg 2 _ rfl
    obtain ⟨dq_0, e2, f2⟩ := trod_Head h2
    have g2 : Try.prog.cellsOf 31 = 5 := by kernel_rfl
    have e2' : [c4, c5, c6, c7, c8] = dq_0.cells := by simpa [g2] using e2
    simp only [Hd.cells, List.cons.injEq, and_true] at e2'
    obtain ⟨rfl, rfl, rfl, rfl, rfl⟩ := e2'
    exact ⟨_, _, _, _, _, _, _, _, _, _, _, rfl, fz0_0, fz1_0, f2, fl0_0, fm0_0, fl1_0, fm1_0⟩
set_option maxRecDepth 100000 in
theorem open_Seal {r : Reach} {b0 : Nat} {v : Value} {d : DataW H} {ps : List MemPlace} (hv : Value.okWide Try.prog w r b0 84 v) (h : DataW.Trod enc Try.prog w 0 spare held 84 v d ps) :
    ∃ (zq_0 zq_1 : Int) (dq_0 : Hd) (Aq_0 Aq_1 : Option Addr) (nq_0 cq_0 nq_1 cq_1 : Nat) (lq_0 : List ByteArray) (lq_1 : List ByteArray), v = .agg #[.int .i64 zq_0, .slice Aq_0 nq_0 cq_0, .int .i64 zq_1, .slice Aq_1 nq_1 cq_1, .int .i64 dq_0.num, .int .i64 dq_0.size, .string dq_0.root, .int .i64 dq_0.taken, .string dq_0.troot] ∧ I64 zq_0 ∧ I64 zq_1 ∧ dq_0.fits ∧ Lst w Aq_0 nq_0 cq_0 lq_0.length (strs lq_0) ∧ (∀ x ∈ lq_0, x.size ≤ maxLen) ∧ Lst w Aq_1 nq_1 cq_1 lq_1.length (strs lq_1) ∧ (∀ x ∈ lq_1, x.size ≤ maxLen) := by
  obtain ⟨cs, rfl, _⟩ := okWide_struct Try.underlying84 hv
  obtain ⟨fuel, hf⟩ := h
  obtain ⟨zq_0, zq_1, dq_0, Aq_0, Aq_1, nq_0, cq_0, nq_1, cq_1, lq_0, lq_1, he, hr⟩ := trod_Seal hf
  obtain ⟨cs⟩ := cs
  have he' : cs = _ := he
  exact ⟨zq_0, zq_1, dq_0, Aq_0, Aq_1, nq_0, cq_0, nq_1, cq_1, lq_0, lq_1, by rw [he'], hr⟩
set_option maxRecDepth 100000 in
theorem open_strs {r : Reach} {b0 : Nat} {v : Value} {d : DataW H} {ps : List MemPlace} (hv : Value.okWide Try.prog w r b0 39 v) (h : DataW.Trod enc Try.prog w 0 spare held 39 v d ps) :
    ∃ (A : Option Addr) (n c : Nat) (l : List ByteArray), v = .slice A n c ∧ Lst w A n c l.length (strs l) ∧ ∀ x ∈ l, x.size ≤ maxLen := by
  obtain ⟨a0, len, cap, rfl⟩ := okWide_slice Try.underlying39 hv
  obtain ⟨fuel, hf⟩ := h
  obtain ⟨A, n, c, l, he, h1, h2⟩ := trod_strs hf
  exact ⟨A, n, c, l, by simpa [Value.cells] using he, h1, h2⟩
set_option maxRecDepth 100000 in
theorem open_u8s {r : Reach} {b0 : Nat} {v : Value} {d : DataW H} {ps : List MemPlace} (hv : Value.okWide Try.prog w r b0 119 v) (h : DataW.Trod enc Try.prog w 0 spare held 119 v d ps) :
    ∃ (A : Option Addr) (n c : Nat) (l : List Int), v = .slice A n c ∧ Lst w A n c l.length (u8s l) ∧ ∀ x ∈ l, 0 ≤ x ∧ x ≤ 255 := by
  obtain ⟨a0, len, cap, rfl⟩ := okWide_slice Try.underlying119 hv
  obtain ⟨fuel, hf⟩ := h
  obtain ⟨A, n, c, l, he, h1, h2⟩ := trod_u8s hf
  exact ⟨A, n, c, l, by simpa [Value.cells] using he, h1, h2⟩
set_option maxRecDepth 100000 in
theorem open_HeadS {r : Reach} {b0 : Nat} {v : Value} {d : DataW H} {ps : List MemPlace} (hv : Value.okWide Try.prog w r b0 45 v) (h : DataW.Trod enc Try.prog w 0 spare held 45 v d ps) :
    ∃ (A : Option Addr) (n c : Nat) (l : List Hd), v = .slice A n c ∧ Lst w A n c l.length (hds l) ∧ ∀ x ∈ l, x.fits := by
  obtain ⟨a0, len, cap, rfl⟩ := okWide_slice Try.underlying45 hv
  obtain ⟨fuel, hf⟩ := h
  obtain ⟨A, n, c, l, he, h1, h2⟩ := trod_HeadS hf
  exact ⟨A, n, c, l, by simpa [Value.cells] using he, h1, h2⟩
end
end Go.Proofs.Ytojjjhbiccgjkaa
