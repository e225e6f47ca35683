/- The types of this program as arguments. Written by gen_open.py. -/
import Derived.Test.YtmmepogjocfefaaGreatFlat
import Derived.Test.YtmmepogjocfefaaGreatData
import Derived.Test.YtmmepogjocfefaaGreatRows
import Derived.WalkKit
import Derived.ProofKit
import Derived.OpenShut
import Derived.ChangeOld
namespace Go.Proofs.YtmmepogjocfefaaGreat
set_option linter.unusedVariables false
set_option linter.unusedSimpArgs false
open Go.RowKit Go.WideShapes Go.Deep

theorem Tryz.own : ownKnob Tryz.prog.godebug = none := by kernel_rfl
theorem Tryz.laidOut : laidOutB Tryz.prog = true := by kernel_rfl

section
variable {H : Type} {enc : TypeId × Value → H} {w : World} {spare : Nat → Bool} {held : Bool}

theorem strs_flat (l : List ByteArray) : l.flatMap (fun s => [Value.string s]) = strs l := by
 induction l with
 | nil => rfl
 | cons a l ih => simpa [strs] using ih
theorem ints_flat (l : List Int) : l.flatMap (fun s => [Value.int .i64 s]) = ints l := by
 induction l with
 | nil => rfl
 | cons a l ih => simpa [ints] using ih
/-- bytes as cells -/
def u8s (l : List Int) : List Value := l.flatMap fun s => [Value.int .u8 s]

/-- what a slice that came in is -/
def Lst (w : World) (A : Option Addr) (n c : Nat) (len : Nat) (cells : List Value) : Prop :=
 len = n ∧ n ≤ c ∧ c ≤ maxLen ∧ Rd w 0 w.heap.size A cells

set_option maxRecDepth 100000 in
theorem trod_strs {fuel : Nat} {cs : List Value} {r : DataW H × List MemPlace} (h : DataW.trod enc Tryz.prog w 0 spare held fuel 27 cs = some r) :
  ∃ (A : Option Addr) (n c : Nat) (l : List ByteArray), cs = [.slice A n c] ∧ Lst w A n c l.length (strs l) ∧ ∀ x ∈ l, x.size ≤ maxLen := by
 obtain ⟨A, n, c, l, rfl, h1, h2, h3, h4, h5⟩ := open_flat (fun s => [Value.string s]) (fun x => x.size ≤ maxLen) 1 (by omega) (fun _ => rfl) Tryz.underlying27 (by kernel_rfl) (fun _ _ _ h => trod_str Tryz.underlying9 h) h
 rw [strs_flat] at h4
 exact ⟨A, n, c, l, rfl, ⟨h1, h2, h3, h4⟩, h5⟩
set_option maxRecDepth 100000 in
theorem trod_ints {fuel : Nat} {cs : List Value} {r : DataW H × List MemPlace} (h : DataW.trod enc Tryz.prog w 0 spare held fuel 190 cs = some r) :
  ∃ (A : Option Addr) (n c : Nat) (l : List Int), cs = [.slice A n c] ∧ Lst w A n c l.length (ints l) ∧ ∀ x ∈ l, I64 x := by
 obtain ⟨A, n, c, l, rfl, h1, h2, h3, h4, h5⟩ := open_flat (fun s => [Value.int .i64 s]) (fun x => I64 x) 1 (by omega) (fun _ => rfl) Tryz.underlying190 (by kernel_rfl) (fun _ _ _ h => trod_i64 Tryz.underlying3 h) h
 rw [ints_flat] at h4
 exact ⟨A, n, c, l, rfl, ⟨h1, h2, h3, h4⟩, h5⟩
set_option maxRecDepth 100000 in
theorem trod_u8s {fuel : Nat} {cs : List Value} {r : DataW H × List MemPlace} (h : DataW.trod enc Tryz.prog w 0 spare held fuel 141 cs = some r) :
  ∃ (A : Option Addr) (n c : Nat) (l : List Int), cs = [.slice A n c] ∧ Lst w A n c l.length (u8s l) ∧ ∀ x ∈ l, 0 ≤ x ∧ x ≤ 255 := by
 obtain ⟨A, n, c, l, rfl, h1, h2, h3, h4, h5⟩ := open_flat (fun s => [Value.int .u8 s]) (fun x => 0 ≤ x ∧ x ≤ 255) 1 (by omega) (fun _ => rfl) Tryz.underlying141 (by kernel_rfl) (fun _ _ _ h => trod_u8 Tryz.underlying5 h) h
 exact ⟨A, n, c, l, rfl, ⟨h1, h2, h3, h4⟩, h5⟩
set_option maxRecDepth 100000 in
theorem trod_Entry {fuel : Nat} {cs : List Value} {r : DataW H × List MemPlace} (h : DataW.trod enc Tryz.prog w 0 spare held fuel 169 cs = some r) : ∃ e : Ent, cs = e.cells ∧ e.fits := by
 obtain ⟨hl, hg⟩ := trod_fields Tryz.underlying169 h
 have hl' : cs.length = 5 := hl
 match cs, hl' with
 | [c0, c1, c2, c3, c4], _ =>
   obtain ⟨n0, y0, h0⟩ := hg 0 _ rfl
   obtain ⟨x0, e0, f0⟩ := trod_str Tryz.underlying9 h0
   have g0 : Tryz.prog.cellsOf 9 = 1 := by kernel_rfl
   obtain rfl : c0 = .string x0 := by simpa [g0] using e0
   obtain ⟨n1, y1, h1⟩ := hg 1 _ rfl
   obtain ⟨x1, e1, f1⟩ := trod_i64 Tryz.underlying3 h1
   have g1 : Tryz.prog.cellsOf 3 = 1 := by kernel_rfl
   obtain rfl : c1 = .int .i64 x1 := by simpa [g1] using e1
   obtain ⟨n2, y2, h2⟩ := hg 2 _ rfl
   obtain ⟨x2, e2, f2⟩ := trod_i64 Tryz.underlying3 h2
   have g2 : Tryz.prog.cellsOf 3 = 1 := by kernel_rfl
   obtain rfl : c2 = .int .i64 x2 := by simpa [g2] using e2
   obtain ⟨n3, y3, h3⟩ := hg 3 _ rfl
   obtain ⟨x3, e3, f3⟩ := trod_str Tryz.underlying9 h3
   have g3 : Tryz.prog.cellsOf 9 = 1 := by kernel_rfl
   obtain rfl : c3 = .string x3 := by simpa [g3] using e3
   obtain ⟨n4, y4, h4⟩ := hg 4 _ rfl
   obtain ⟨x4, e4, f4⟩ := trod_str Tryz.underlying9 h4
   have g4 : Tryz.prog.cellsOf 9 = 1 := by kernel_rfl
   obtain rfl : c4 = .string x4 := by simpa [g4] using e4
   exact ⟨⟨x0, x1, x2, x3, x4⟩, rfl, f1, f2, f0, f3, f4⟩
set_option maxRecDepth 100000 in
theorem open_Entry {r : Reach} {b0 : Nat} {v : Value} {d : DataW H} {ps : List MemPlace} (hv : Value.okWide Tryz.prog w r b0 169 v) (h : DataW.Trod enc Tryz.prog w 0 spare held 169 v d ps) :
  ∃ e : Ent, v = .agg e.cells.toArray ∧ e.fits := by
 obtain ⟨cs, rfl, _⟩ := okWide_struct Tryz.underlying169 hv
 obtain ⟨fuel, hf⟩ := h
 obtain ⟨e, he, hfit⟩ := trod_Entry hf
 obtain ⟨cs⟩ := cs
 have he' : cs = e.cells := he
 exact ⟨e, by rw [he'], hfit⟩
set_option maxRecDepth 100000 in
theorem trod_Receipt {fuel : Nat} {cs : List Value} {r : DataW H × List MemPlace} (h : DataW.trod enc Tryz.prog w 0 spare held fuel 37 cs = some r) : ∃ e : Rcp, cs = e.cells ∧ e.fits := by
 obtain ⟨hl, hg⟩ := trod_fields Tryz.underlying37 h
 have hl' : cs.length = 3 := hl
 match cs, hl' with
 | [c0, c1, c2], _ =>
   obtain ⟨n0, y0, h0⟩ := hg 0 _ rfl
   obtain ⟨x0, e0, f0⟩ := trod_str Tryz.underlying9 h0
   have g0 : Tryz.prog.cellsOf 9 = 1 := by kernel_rfl
   obtain rfl : c0 = .string x0 := by simpa [g0] using e0
   obtain ⟨n1, y1, h1⟩ := hg 1 _ rfl
   obtain ⟨x1, e1, f1⟩ := trod_str Tryz.underlying9 h1
   have g1 : Tryz.prog.cellsOf 9 = 1 := by kernel_rfl
   obtain rfl : c1 = .string x1 := by simpa [g1] using e1
   obtain ⟨n2, y2, h2⟩ := hg 2 _ rfl
   obtain ⟨x2, e2, f2⟩ := trod_i64 Tryz.underlying3 h2
   have g2 : Tryz.prog.cellsOf 3 = 1 := by kernel_rfl
   obtain rfl : c2 = .int .i64 x2 := by simpa [g2] using e2
   exact ⟨⟨x0, x1, x2⟩, rfl, f2, f0, f1⟩
set_option maxRecDepth 100000 in
theorem open_Receipt {r : Reach} {b0 : Nat} {v : Value} {d : DataW H} {ps : List MemPlace} (hv : Value.okWide Tryz.prog w r b0 37 v) (h : DataW.Trod enc Tryz.prog w 0 spare held 37 v d ps) :
  ∃ e : Rcp, v = .agg e.cells.toArray ∧ e.fits := by
 obtain ⟨cs, rfl, _⟩ := okWide_struct Tryz.underlying37 hv
 obtain ⟨fuel, hf⟩ := h
 obtain ⟨e, he, hfit⟩ := trod_Receipt hf
 obtain ⟨cs⟩ := cs
 have he' : cs = e.cells := he
 exact ⟨e, by rw [he'], hfit⟩
set_option maxRecDepth 100000 in
theorem trod_Head {fuel : Nat} {cs : List Value} {r : DataW H × List MemPlace} (h : DataW.trod enc Tryz.prog w 0 spare held fuel 31 cs = some r) : ∃ e : Hd, cs = e.cells ∧ e.fits := by
 obtain ⟨hl, hg⟩ := trod_fields Tryz.underlying31 h
 have hl' : cs.length = 5 := hl
 match cs, hl' with
 | [c0, c1, c2, c3, c4], _ =>
   obtain ⟨n0, y0, h0⟩ := hg 0 _ rfl
   obtain ⟨x0, e0, f0⟩ := trod_i64 Tryz.underlying3 h0
   have g0 : Tryz.prog.cellsOf 3 = 1 := by kernel_rfl
   obtain rfl : c0 = .int .i64 x0 := by simpa [g0] using e0
   obtain ⟨n1, y1, h1⟩ := hg 1 _ rfl
   obtain ⟨x1, e1, f1⟩ := trod_i64 Tryz.underlying3 h1
   have g1 : Tryz.prog.cellsOf 3 = 1 := by kernel_rfl
   obtain rfl : c1 = .int .i64 x1 := by simpa [g1] using e1
   obtain ⟨n2, y2, h2⟩ := hg 2 _ rfl
   obtain ⟨x2, e2, f2⟩ := trod_str Tryz.underlying9 h2
   have g2 : Tryz.prog.cellsOf 9 = 1 := by kernel_rfl
   obtain rfl : c2 = .string x2 := by simpa [g2] using e2
   obtain ⟨n3, y3, h3⟩ := hg 3 _ rfl
   obtain ⟨x3, e3, f3⟩ := trod_i64 Tryz.underlying3 h3
   have g3 : Tryz.prog.cellsOf 3 = 1 := by kernel_rfl
   obtain rfl : c3 = .int .i64 x3 := by simpa [g3] using e3
   obtain ⟨n4, y4, h4⟩ := hg 4 _ rfl
   obtain ⟨x4, e4, f4⟩ := trod_str Tryz.underlying9 h4
   have g4 : Tryz.prog.cellsOf 9 = 1 := by kernel_rfl
   obtain rfl : c4 = .string x4 := by simpa [g4] using e4
   exact ⟨⟨x0, x1, x2, x3, x4⟩, rfl, f0, f1, f3, f2, f4⟩
set_option maxRecDepth 100000 in
theorem open_Head {r : Reach} {b0 : Nat} {v : Value} {d : DataW H} {ps : List MemPlace} (hv : Value.okWide Tryz.prog w r b0 31 v) (h : DataW.Trod enc Tryz.prog w 0 spare held 31 v d ps) :
  ∃ e : Hd, v = .agg e.cells.toArray ∧ e.fits := by
 obtain ⟨cs, rfl, _⟩ := okWide_struct Tryz.underlying31 hv
 obtain ⟨fuel, hf⟩ := h
 obtain ⟨e, he, hfit⟩ := trod_Head hf
 obtain ⟨cs⟩ := cs
 have he' : cs = e.cells := he
 exact ⟨e, by rw [he'], hfit⟩
set_option maxRecDepth 100000 in
theorem trod_EntryS {fuel : Nat} {cs : List Value} {r : DataW H × List MemPlace} (h : DataW.trod enc Tryz.prog w 0 spare held fuel 22 cs = some r) :
  ∃ (A : Option Addr) (n c : Nat) (l : List Ent), cs = [.slice A n c] ∧ Lst w A n c l.length (ents l) ∧ ∀ x ∈ l, x.fits := by
 obtain ⟨A, n, c, l, rfl, h1, h2, h3, h4, h5⟩ := open_flat (Ent.cells) (fun x => x.fits) 5 (by omega) (fun _ => rfl) Tryz.underlying22 (by kernel_rfl) (fun _ _ _ h => trod_Entry h) h
 exact ⟨A, n, c, l, rfl, ⟨h1, h2, h3, h4⟩, h5⟩
set_option maxRecDepth 100000 in
theorem trod_ReceiptS {fuel : Nat} {cs : List Value} {r : DataW H × List MemPlace} (h : DataW.trod enc Tryz.prog w 0 spare held fuel 25 cs = some r) :
  ∃ (A : Option Addr) (n c : Nat) (l : List Rcp), cs = [.slice A n c] ∧ Lst w A n c l.length (rcps l) ∧ ∀ x ∈ l, x.fits := by
 obtain ⟨A, n, c, l, rfl, h1, h2, h3, h4, h5⟩ := open_flat (Rcp.cells) (fun x => x.fits) 3 (by omega) (fun _ => rfl) Tryz.underlying25 (by kernel_rfl) (fun _ _ _ h => trod_Receipt h) h
 exact ⟨A, n, c, l, rfl, ⟨h1, h2, h3, h4⟩, h5⟩
set_option maxRecDepth 100000 in
theorem trod_HeadS {fuel : Nat} {cs : List Value} {r : DataW H × List MemPlace} (h : DataW.trod enc Tryz.prog w 0 spare held fuel 26 cs = some r) :
  ∃ (A : Option Addr) (n c : Nat) (l : List Hd), cs = [.slice A n c] ∧ Lst w A n c l.length (hds l) ∧ ∀ x ∈ l, x.fits := by
 obtain ⟨A, n, c, l, rfl, h1, h2, h3, h4, h5⟩ := open_flat (Hd.cells) (fun x => x.fits) 5 (by omega) (fun _ => rfl) Tryz.underlying26 (by kernel_rfl) (fun _ _ _ h => trod_Head h) h
 exact ⟨A, n, c, l, rfl, ⟨h1, h2, h3, h4⟩, h5⟩
set_option maxRecDepth 100000 in
theorem trod_Log {fuel : Nat} {cs : List Value} {r : DataW H × List MemPlace} (h : DataW.trod enc Tryz.prog w 0 spare held fuel 24 cs = some r) :
  ∃ (Aq_0 : Option Addr) (nq_0 cq_0 : Nat) (lq_0 : List Ent), cs = [.slice Aq_0 nq_0 cq_0] ∧ Lst w Aq_0 nq_0 cq_0 lq_0.length (ents lq_0) ∧ (∀ x ∈ lq_0, x.fits) := by
 obtain ⟨hl, hg⟩ := trod_fields Tryz.underlying24 h
 have hl' : cs.length = 1 := hl
 match cs, hl' with
 | [c0], _ =>
   obtain ⟨n0, y0, h0⟩ := hg 0 _ rfl
   obtain ⟨Aq_0, nq_0, cq_0, lq_0, e0, f0⟩ := trod_EntryS h0
   have g0 : Tryz.prog.cellsOf 22 = 1 := by kernel_rfl
   obtain rfl : c0 = .slice Aq_0 nq_0 cq_0 := by simpa [g0] using e0
   exact ⟨_, _, _, _, rfl, f0.1, f0.2⟩
set_option maxRecDepth 100000 in
theorem open_Log {r : Reach} {b0 : Nat} {v : Value} {d : DataW H} {ps : List MemPlace} (hv : Value.okWide Tryz.prog w r b0 24 v) (h : DataW.Trod enc Tryz.prog w 0 spare held 24 v d ps) :
  ∃ (Aq_0 : Option Addr) (nq_0 cq_0 : Nat) (lq_0 : List Ent), v = .agg #[.slice Aq_0 nq_0 cq_0] ∧ Lst w Aq_0 nq_0 cq_0 lq_0.length (ents lq_0) ∧ (∀ x ∈ lq_0, x.fits) := by
 obtain ⟨cs, rfl, _⟩ := okWide_struct Tryz.underlying24 hv
 obtain ⟨fuel, hf⟩ := h
 obtain ⟨Aq_0, nq_0, cq_0, lq_0, he, hr⟩ := trod_Log hf
 obtain ⟨cs⟩ := cs
 have he' : cs = _ := he
 exact ⟨Aq_0, nq_0, cq_0, lq_0, by rw [he'], hr⟩
set_option maxRecDepth 100000 in
theorem trod_Range {fuel : Nat} {cs : List Value} {r : DataW H × List MemPlace} (h : DataW.trod enc Tryz.prog w 0 spare held fuel 29 cs = some r) :
  ∃ (zq_0 : Int) (Aq_0 : Option Addr) (nq_0 cq_0 : Nat) (lq_0 : List ByteArray), cs = [.int .i64 zq_0, .slice Aq_0 nq_0 cq_0] ∧ I64 zq_0 ∧ Lst w Aq_0 nq_0 cq_0 lq_0.length (strs lq_0) ∧ (∀ x ∈ lq_0, x.size ≤ maxLen) := by
 obtain ⟨hl, hg⟩ := trod_fields Tryz.underlying29 h
 have hl' : cs.length = 2 := hl
 match cs, hl' with
 | [c0, c1], _ =>
   obtain ⟨n0, y0, h0⟩ := hg 0 _ rfl
   obtain ⟨zq_0, e0, f0⟩ := trod_i64 Tryz.underlying3 h0
   have g0 : Tryz.prog.cellsOf 3 = 1 := by kernel_rfl
   obtain rfl : c0 = .int .i64 zq_0 := by simpa [g0] using e0
   obtain ⟨n1, y1, h1⟩ := hg 1 _ rfl
   obtain ⟨Aq_0, nq_0, cq_0, lq_0, e1, f1⟩ := trod_strs h1
   have g1 : Tryz.prog.cellsOf 27 = 1 := by kernel_rfl
   obtain rfl : c1 = .slice Aq_0 nq_0 cq_0 := by simpa [g1] using e1
   exact ⟨_, _, _, _, _, rfl, f0, f1.1, f1.2⟩
set_option maxRecDepth 100000 in
theorem open_Range {r : Reach} {b0 : Nat} {v : Value} {d : DataW H} {ps : List MemPlace} (hv : Value.okWide Tryz.prog w r b0 29 v) (h : DataW.Trod enc Tryz.prog w 0 spare held 29 v d ps) :
  ∃ (zq_0 : Int) (Aq_0 : Option Addr) (nq_0 cq_0 : Nat) (lq_0 : List ByteArray), v = .agg #[.int .i64 zq_0, .slice Aq_0 nq_0 cq_0] ∧ I64 zq_0 ∧ Lst w Aq_0 nq_0 cq_0 lq_0.length (strs lq_0) ∧ (∀ x ∈ lq_0, x.size ≤ maxLen) := by
 obtain ⟨cs, rfl, _⟩ := okWide_struct Tryz.underlying29 hv
 obtain ⟨fuel, hf⟩ := h
 obtain ⟨zq_0, Aq_0, nq_0, cq_0, lq_0, he, hr⟩ := trod_Range hf
 obtain ⟨cs⟩ := cs
 have he' : cs = _ := he
 exact ⟨zq_0, Aq_0, nq_0, cq_0, lq_0, by rw [he'], hr⟩
set_option maxRecDepth 100000 in
theorem trod_Seal {fuel : Nat} {cs : List Value} {r : DataW H × List MemPlace} (h : DataW.trod enc Tryz.prog w 0 spare held fuel 33 cs = some r) :
  ∃ (zq_0 zq_1 : Int) (dq_0 : Hd) (Aq_0 Aq_1 : Option Addr) (nq_0 cq_0 nq_1 cq_1 : Nat) (lq_0 : List ByteArray) (lq_1 : List ByteArray), cs = [.int .i64 zq_0, .slice Aq_0 nq_0 cq_0, .int .i64 zq_1, .slice Aq_1 nq_1 cq_1, .int .i64 dq_0.num, .int .i64 dq_0.size, .string dq_0.root, .int .i64 dq_0.taken, .string dq_0.troot] ∧ I64 zq_0 ∧ I64 zq_1 ∧ dq_0.fits ∧ Lst w Aq_0 nq_0 cq_0 lq_0.length (strs lq_0) ∧ (∀ x ∈ lq_0, x.size ≤ maxLen) ∧ Lst w Aq_1 nq_1 cq_1 lq_1.length (strs lq_1) ∧ (∀ x ∈ lq_1, x.size ≤ maxLen) := by
 obtain ⟨hl, hg⟩ := trod_fields Tryz.underlying33 h
 have hl' : cs.length = 9 := hl
 match cs, hl' with
 | [c0, c1, c2, c3, c4, c5, c6, c7, c8], _ =>
   obtain ⟨n0, y0, h0⟩ := hg 0 _ rfl
   obtain ⟨zq_0, Aq_0, nq_0, cq_0, lq_0, e0, fz0_0, fl0_0, fm0_0⟩ := trod_Range h0
   have g0 : Tryz.prog.cellsOf 29 = 2 := by kernel_rfl
   simp [g0] at e0
   obtain ⟨rfl, rfl⟩ := e0
   obtain ⟨n1, y1, h1⟩ := hg 1 _ rfl
   obtain ⟨zq_1, Aq_1, nq_1, cq_1, lq_1, e1, fz1_0, fl1_0, fm1_0⟩ := trod_Range h1
   have g1 : Tryz.prog.cellsOf 29 = 2 := by kernel_rfl
   simp [g1] at e1
   obtain ⟨rfl, rfl⟩ := e1
   obtain ⟨n2, y2, h2⟩ := hg 2 _ rfl
   obtain ⟨dq_0, e2, f2⟩ := trod_Head h2
   have g2 : Tryz.prog.cellsOf 31 = 5 := by kernel_rfl
   have e2' : [c4, c5, c6, c7, c8] = dq_0.cells := by simpa [g2] using e2
   simp only [Hd.cells, List.cons.injEq, and_true] at e2'
   obtain ⟨rfl, rfl, rfl, rfl, rfl⟩ := e2'
   exact ⟨_, _, _, _, _, _, _, _, _, _, _, rfl, fz0_0, fz1_0, f2, fl0_0, fm0_0, fl1_0, fm1_0⟩
set_option maxRecDepth 100000 in
theorem open_Seal {r : Reach} {b0 : Nat} {v : Value} {d : DataW H} {ps : List MemPlace} (hv : Value.okWide Tryz.prog w r b0 33 v) (h : DataW.Trod enc Tryz.prog w 0 spare held 33 v d ps) :
  ∃ (zq_0 zq_1 : Int) (dq_0 : Hd) (Aq_0 Aq_1 : Option Addr) (nq_0 cq_0 nq_1 cq_1 : Nat) (lq_0 : List ByteArray) (lq_1 : List ByteArray), v = .agg #[.int .i64 zq_0, .slice Aq_0 nq_0 cq_0, .int .i64 zq_1, .slice Aq_1 nq_1 cq_1, .int .i64 dq_0.num, .int .i64 dq_0.size, .string dq_0.root, .int .i64 dq_0.taken, .string dq_0.troot] ∧ I64 zq_0 ∧ I64 zq_1 ∧ dq_0.fits ∧ Lst w Aq_0 nq_0 cq_0 lq_0.length (strs lq_0) ∧ (∀ x ∈ lq_0, x.size ≤ maxLen) ∧ Lst w Aq_1 nq_1 cq_1 lq_1.length (strs lq_1) ∧ (∀ x ∈ lq_1, x.size ≤ maxLen) := by
 obtain ⟨cs, rfl, _⟩ := okWide_struct Tryz.underlying33 hv
 obtain ⟨fuel, hf⟩ := h
 obtain ⟨zq_0, zq_1, dq_0, Aq_0, Aq_1, nq_0, cq_0, nq_1, cq_1, lq_0, lq_1, he, hr⟩ := trod_Seal hf
 obtain ⟨cs⟩ := cs
 have he' : cs = _ := he
 exact ⟨zq_0, zq_1, dq_0, Aq_0, Aq_1, nq_0, cq_0, nq_1, cq_1, lq_0, lq_1, by rw [he'], hr⟩
set_option maxRecDepth 100000 in
theorem trod_Broker {fuel : Nat} {cs : List Value} {r : DataW H × List MemPlace} (h : DataW.trod enc Tryz.prog w 0 spare held fuel 35 cs = some r) :
  ∃ (zq_0 zq_1 zq_2 : Int) (dq_0 : Hd) (Aq_0 Aq_1 Aq_2 Aq_3 Aq_4 : Option Addr) (nq_0 cq_0 nq_1 cq_1 nq_2 cq_2 nq_3 cq_3 nq_4 cq_4 : Nat) (lq_0 : List Ent) (lq_1 : List Rcp) (lq_2 : List Hd) (lq_3 : List ByteArray) (lq_4 : List ByteArray), cs = [.int .i64 zq_0, .slice Aq_0 nq_0 cq_0, .slice Aq_1 nq_1 cq_1, .slice Aq_2 nq_2 cq_2, .int .i64 zq_1, .slice Aq_3 nq_3 cq_3, .int .i64 zq_2, .slice Aq_4 nq_4 cq_4, .int .i64 dq_0.num, .int .i64 dq_0.size, .string dq_0.root, .int .i64 dq_0.taken, .string dq_0.troot] ∧ I64 zq_0 ∧ I64 zq_1 ∧ I64 zq_2 ∧ dq_0.fits ∧ Lst w Aq_0 nq_0 cq_0 lq_0.length (ents lq_0) ∧ (∀ x ∈ lq_0, x.fits) ∧ Lst w Aq_1 nq_1 cq_1 lq_1.length (rcps lq_1) ∧ (∀ x ∈ lq_1, x.fits) ∧ Lst w Aq_2 nq_2 cq_2 lq_2.length (hds lq_2) ∧ (∀ x ∈ lq_2, x.fits) ∧ Lst w Aq_3 nq_3 cq_3 lq_3.length (strs lq_3) ∧ (∀ x ∈ lq_3, x.size ≤ maxLen) ∧ Lst w Aq_4 nq_4 cq_4 lq_4.length (strs lq_4) ∧ (∀ x ∈ lq_4, x.size ≤ maxLen) := by
 obtain ⟨hl, hg⟩ := trod_fields Tryz.underlying35 h
 have hl' : cs.length = 13 := hl
 match cs, hl' with
 | [c0, c1, c2, c3, c4, c5, c6, c7, c8, c9, c10, c11, c12], _ =>
   obtain ⟨n0, y0, h0⟩ := hg 0 _ rfl
   obtain ⟨zq_0, e0, f0⟩ := trod_i64 Tryz.underlying3 h0
   have g0 : Tryz.prog.cellsOf 3 = 1 := by kernel_rfl
   obtain rfl : c0 = .int .i64 zq_0 := by simpa [g0] using e0
   obtain ⟨n1, y1, h1⟩ := hg 1 _ rfl
   obtain ⟨Aq_0, nq_0, cq_0, lq_0, e1, fl1_0, fm1_0⟩ := trod_Log h1
   have g1 : Tryz.prog.cellsOf 24 = 1 := by kernel_rfl
   simp [g1] at e1
   obtain rfl := e1
   obtain ⟨n2, y2, h2⟩ := hg 2 _ rfl
   obtain ⟨Aq_1, nq_1, cq_1, lq_1, e2, f2⟩ := trod_ReceiptS h2
   have g2 : Tryz.prog.cellsOf 25 = 1 := by kernel_rfl
   obtain rfl : c2 = .slice Aq_1 nq_1 cq_1 := by simpa [g2] using e2
   obtain ⟨n3, y3, h3⟩ := hg 3 _ rfl
   obtain ⟨Aq_2, nq_2, cq_2, lq_2, e3, f3⟩ := trod_HeadS h3
   have g3 : Tryz.prog.cellsOf 26 = 1 := by kernel_rfl
   obtain rfl : c3 = .slice Aq_2 nq_2 cq_2 := by simpa [g3] using e3
   obtain ⟨n4, y4, h4⟩ := hg 4 _ rfl
   obtain ⟨zq_1, zq_2, dq_0, Aq_3, Aq_4, nq_3, cq_3, nq_4, cq_4, lq_3, lq_4, e4, fz4_0, fz4_1, fh4_0, fl4_0, fm4_0, fl4_1, fm4_1⟩ := trod_Seal h4
   have g4 : Tryz.prog.cellsOf 33 = 9 := by kernel_rfl
   simp [g4] at e4
   obtain ⟨rfl, rfl, rfl, rfl, rfl, rfl, rfl, rfl, rfl⟩ := e4
   exact ⟨_, _, _, _, _, _, _, _, _, _, _, _, _, _, _, _, _, _, _, _, _, _, _, _, rfl, f0, fz4_0, fz4_1, fh4_0, fl1_0, fm1_0, f2.1, f2.2, f3.1, f3.2, fl4_0, fm4_0, fl4_1, fm4_1⟩
set_option maxRecDepth 100000 in
theorem open_Broker {r : Reach} {b0 : Nat} {v : Value} {d : DataW H} {ps : List MemPlace} (hv : Value.okWide Tryz.prog w r b0 35 v) (h : DataW.Trod enc Tryz.prog w 0 spare held 35 v d ps) :
  ∃ (zq_0 zq_1 zq_2 : Int) (dq_0 : Hd) (Aq_0 Aq_1 Aq_2 Aq_3 Aq_4 : Option Addr) (nq_0 cq_0 nq_1 cq_1 nq_2 cq_2 nq_3 cq_3 nq_4 cq_4 : Nat) (lq_0 : List Ent) (lq_1 : List Rcp) (lq_2 : List Hd) (lq_3 : List ByteArray) (lq_4 : List ByteArray), v = .agg #[.int .i64 zq_0, .slice Aq_0 nq_0 cq_0, .slice Aq_1 nq_1 cq_1, .slice Aq_2 nq_2 cq_2, .int .i64 zq_1, .slice Aq_3 nq_3 cq_3, .int .i64 zq_2, .slice Aq_4 nq_4 cq_4, .int .i64 dq_0.num, .int .i64 dq_0.size, .string dq_0.root, .int .i64 dq_0.taken, .string dq_0.troot] ∧ I64 zq_0 ∧ I64 zq_1 ∧ I64 zq_2 ∧ dq_0.fits ∧ Lst w Aq_0 nq_0 cq_0 lq_0.length (ents lq_0) ∧ (∀ x ∈ lq_0, x.fits) ∧ Lst w Aq_1 nq_1 cq_1 lq_1.length (rcps lq_1) ∧ (∀ x ∈ lq_1, x.fits) ∧ Lst w Aq_2 nq_2 cq_2 lq_2.length (hds lq_2) ∧ (∀ x ∈ lq_2, x.fits) ∧ Lst w Aq_3 nq_3 cq_3 lq_3.length (strs lq_3) ∧ (∀ x ∈ lq_3, x.size ≤ maxLen) ∧ Lst w Aq_4 nq_4 cq_4 lq_4.length (strs lq_4) ∧ (∀ x ∈ lq_4, x.size ≤ maxLen) := by
 obtain ⟨cs, rfl, _⟩ := okWide_struct Tryz.underlying35 hv
 obtain ⟨fuel, hf⟩ := h
 obtain ⟨zq_0, zq_1, zq_2, dq_0, Aq_0, Aq_1, Aq_2, Aq_3, Aq_4, nq_0, cq_0, nq_1, cq_1, nq_2, cq_2, nq_3, cq_3, nq_4, cq_4, lq_0, lq_1, lq_2, lq_3, lq_4, he, hr⟩ := trod_Broker hf
 obtain ⟨cs⟩ := cs
 have he' : cs = _ := he
 exact ⟨zq_0, zq_1, zq_2, dq_0, Aq_0, Aq_1, Aq_2, Aq_3, Aq_4, nq_0, cq_0, nq_1, cq_1, nq_2, cq_2, nq_3, cq_3, nq_4, cq_4, lq_0, lq_1, lq_2, lq_3, lq_4, by rw [he'], hr⟩
set_option maxRecDepth 100000 in
theorem open_strs {r : Reach} {b0 : Nat} {v : Value} {d : DataW H} {ps : List MemPlace} (hv : Value.okWide Tryz.prog w r b0 27 v) (h : DataW.Trod enc Tryz.prog w 0 spare held 27 v d ps) :
  ∃ (A : Option Addr) (n c : Nat) (l : List ByteArray), v = .slice A n c ∧ Lst w A n c l.length (strs l) ∧ ∀ x ∈ l, x.size ≤ maxLen := by
 obtain ⟨a0, len, cap, rfl⟩ := okWide_slice Tryz.underlying27 hv
 obtain ⟨fuel, hf⟩ := h
 obtain ⟨A, n, c, l, he, h1, h2⟩ := trod_strs hf
 exact ⟨A, n, c, l, by simpa [Value.cells] using he, h1, h2⟩
set_option maxRecDepth 100000 in
theorem open_u8s {r : Reach} {b0 : Nat} {v : Value} {d : DataW H} {ps : List MemPlace} (hv : Value.okWide Tryz.prog w r b0 141 v) (h : DataW.Trod enc Tryz.prog w 0 spare held 141 v d ps) :
  ∃ (A : Option Addr) (n c : Nat) (l : List Int), v = .slice A n c ∧ Lst w A n c l.length (u8s l) ∧ ∀ x ∈ l, 0 ≤ x ∧ x ≤ 255 := by
 obtain ⟨a0, len, cap, rfl⟩ := okWide_slice Tryz.underlying141 hv
 obtain ⟨fuel, hf⟩ := h
 obtain ⟨A, n, c, l, he, h1, h2⟩ := trod_u8s hf
 exact ⟨A, n, c, l, by simpa [Value.cells] using he, h1, h2⟩
set_option maxRecDepth 100000 in
theorem open_HeadS {r : Reach} {b0 : Nat} {v : Value} {d : DataW H} {ps : List MemPlace} (hv : Value.okWide Tryz.prog w r b0 26 v) (h : DataW.Trod enc Tryz.prog w 0 spare held 26 v d ps) :
  ∃ (A : Option Addr) (n c : Nat) (l : List Hd), v = .slice A n c ∧ Lst w A n c l.length (hds l) ∧ ∀ x ∈ l, x.fits := by
 obtain ⟨a0, len, cap, rfl⟩ := okWide_slice Tryz.underlying26 hv
 obtain ⟨fuel, hf⟩ := h
 obtain ⟨A, n, c, l, he, h1, h2⟩ := trod_HeadS hf
 exact ⟨A, n, c, l, by simpa [Value.cells] using he, h1, h2⟩
end
end Go.Proofs.YtmmepogjocfefaaGreat
