/- The walk of the law FnExactPut; what spec.Put and impl.Put do comes in as hypotheses. Written by gen_law.py. -/
import Derived.Test.YtjmhebmjlnianaaData
import Derived.Test.YtjmhebmjlnianaaReg
import Derived.Test.YtjmhebmjlnianaaSWrite
import Derived.Test.YtjmhebmjlnianaaStr
import Derived.Test.YtjmhebmjlnianaaWDisk
import Derived.Test.YtjmhebmjlnianaaOpen
namespace Go.Proofs.Ytjmhebmjlnianaa
set_option linter.unusedVariables false
set_option linter.unusedSimpArgs false
open Go.RowKit
attribute [local go_sem ↓] Go.wp_at_zero Go.wp_at_succ

def specPut_does (n0_0 : Nat) (l0_0 : List ByteArray) (e1 : Wri) (nr0_0 : Nat) (lr0_0 : List ByteArray) (br1 : Bool) : Prop :=
    ((n0_0 + bulkS l0_0)) + e1.bulk ≤ 1048576 → ∀ (B0_0 : Option Addr) (g0_0 aA0_0 bA0_0 : Nat) (W : World), Rd W aA0_0 bA0_0 B0_0 (strs l0_0) → g0_0 = n0_0 → Calls Try.prog 43 #[.agg #[.slice B0_0 n0_0 g0_0], .agg #[.int .i64 e1.file, .int .i64 e1.pos, .string e1.text]] W fun r W' => ∃ (Ar0_0 : Option Addr) (cr0_0 : Nat), r = .returned (.tuple #[.agg #[.slice Ar0_0 nr0_0 cr0_0], .bool br1]) ∧ Own W' W.heap.size W'.heap.size Ar0_0 (strs lr0_0) ∧ Below W.heap.size W W'
def implPut_does (n0_0 : Nat) (l0_0 : List ByteArray) (e1 : Wri) (nr0_0 : Nat) (lr0_0 : List ByteArray) (br1 : Bool) : Prop :=
    ((n0_0 + bulkS l0_0)) + e1.bulk ≤ 1048576 → ∀ (B0_0 : Option Addr) (g0_0 aA0_0 bA0_0 : Nat) (W : World), Rd W aA0_0 bA0_0 B0_0 (strs l0_0) → g0_0 = n0_0 → Calls Try.prog 44 #[.agg #[.slice B0_0 n0_0 g0_0], .agg #[.int .i64 e1.file, .int .i64 e1.pos, .string e1.text]] W fun r W' => ∃ (Ar0_0 : Option Addr) (cr0_0 : Nat), r = .returned (.tuple #[.agg #[.slice Ar0_0 nr0_0 cr0_0], .bool br1]) ∧ Own W' W.heap.size W'.heap.size Ar0_0 (strs lr0_0) ∧ Below W.heap.size W W'
set_option maxRecDepth 100000 in
set_option maxHeartbeats 4000000 in
theorem walk_Put (A0_0 : Option Addr) (c0_0 : Nat) (n0_0 : Nat) (l0_0 : List ByteArray) (e1 : Wri) (nr0_0 : Nat) (lr0_0 : List ByteArray) (br1 : Bool) (w : World) (hrA0_0 : Rd w 0 w.heap.size A0_0 (strs l0_0)) (hnA0_0 : l0_0.length = n0_0) (hlA0_0 : n0_0 ≤ maxLen) (hsA0_0 : ∀ x ∈ l0_0, x.size ≤ maxLen) (hfe1 : e1.fits) (hrnAr0_0 : lr0_0.length = nr0_0) (hrlAr0_0 : ((n0_0 + bulkS l0_0)) + e1.bulk ≤ 1048576 → nr0_0 ≤ 2000000) (HSP : specPut_does n0_0 l0_0 e1 nr0_0 lr0_0 br1) (HIM : implPut_does n0_0 l0_0 e1 nr0_0 lr0_0 br1) :
    Calls Try.prog 9 #[.agg #[.slice A0_0 n0_0 c0_0], .agg #[.int .i64 e1.file, .int .i64 e1.pos, .string e1.text]] w fun e w' => e = .returned (.bool true) ∧ Below w.heap.size w w' := by
  have HNA0_0 := Lib.hid hnA0_0
  have HSA0_0 := Lib.hid hsA0_0
  clear hnA0_0 hsA0_0
  have HRNAr0_0 := Lib.hid hrnAr0_0
  have HRLAr0_0 := Lib.hid hrlAr0_0
  clear hrnAr0_0 hrlAr0_0
  have HB0 : Hid (Below w.heap.size w w) := Below.refl _ _
  go_enter Try.func9, Try.ntmps9
  go_wp2_with fail
  refine (szDisk_c A0_0 c0_0 n0_0 l0_0 _ _ _ _ (hrA0_0.below (by ((repeat (first | refine Below.alloc ?_ (by first | omega | (simp; done) | (simp; omega)) _ | refine Below.drew ?_)); exact HB0.out))) HNA0_0.out hlA0_0 HSA0_0.out (by omega) (by omega)).mono ?_
  rintro e w1 ⟨rfl, hb1⟩
  have hz1 : w.heap.size + 2 ≤ w1.heap.size := by have := hb1.size; first | omega | (simp at this; omega)
  have hzz1 : w.heap.size ≤ w1.heap.size := by omega
  have HB1 : Hid (Below w.heap.size w w1) := below_then (by ((repeat (first | refine Below.alloc ?_ (by first | omega | (simp; done) | (simp; omega)) _ | refine Below.drew ?_)); exact HB0.out)) hb1 (by first | omega | (simp; done) | (simp; omega))
  have HXaD : Hid (Box w1 (w.heap.size) [.slice A0_0 n0_0 c0_0]) := Box.below ((Box.new0 _ _ _).alloc _) hb1
  have hxaD := HXaD.out.2
  have hkaD := HXaD.out.1
  have HXaW : Hid (Box w1 (w.heap.size + 1) [.int .i64 e1.file, .int .i64 e1.pos, .string e1.text]) := Box.below (Box.new1 _ _ _ _) hb1
  have hxaW := HXaW.out.2
  have hkaW := HXaW.out.1
  clear hb1
  go_wp2_with fail
  · go_ret
    exact ⟨rfl, HB1.out⟩
  · have hp1 : 0 ≤ szF 1048576 (((n0_0 + bulkS l0_0))) := by assumption
    have hg1 := (szF_le 1048576 (((n0_0 + bulkS l0_0))) (by omega)).2
    refine (szWrite_c e1 _ _ hfe1 (by omega) (by omega)).mono ?_
    rintro e w2 ⟨rfl, hb2⟩
    have hz2 : w1.heap.size ≤ w2.heap.size := by have := hb2.size; first | omega | (simp at this; omega)
    have hzz2 : w.heap.size ≤ w2.heap.size := by omega
    have HB2 : Hid (Below w.heap.size w w2) := below_then (by ((repeat (first | refine Below.alloc ?_ (by first | omega | (simp; done) | (simp; omega)) _ | refine Below.drew ?_)); exact HB1.out)) hb2 (by first | omega | (simp; done) | (simp; omega))
    replace HXaD : Hid (Box w2 (w.heap.size) [.slice A0_0 n0_0 c0_0]) := Box.below HXaD.out hb2
    clear hxaD hkaD
    have hxaD := HXaD.out.2
    have hkaD := HXaD.out.1
    replace HXaW : Hid (Box w2 (w.heap.size + 1) [.int .i64 e1.file, .int .i64 e1.pos, .string e1.text]) := Box.below HXaW.out hb2
    clear hxaW hkaW
    have hxaW := HXaW.out.2
    have hkaW := HXaW.out.1
    have HA2 : Hid (szF (szF 1048576 (((n0_0 + bulkS l0_0)))) e1.bulk = szF 1048576 (((n0_0 + bulkS l0_0)) + e1.bulk)) := szF_add (by assumption)
    rw [HA2.out]
    clear hb2
    go_wp2_with fail
    · go_ret
      exact ⟨rfl, HB2.out⟩
    · have hp2 : 0 ≤ szF 1048576 (((n0_0 + bulkS l0_0)) + e1.bulk) := by assumption
      have hg2 := (szF_le 1048576 (((n0_0 + bulkS l0_0)) + e1.bulk) (by omega)).2
      have hbk : ((n0_0 + bulkS l0_0)) + e1.bulk ≤ 1048576 := by have := (szF_pos hp2).1; omega
      have hmA0_0 : n0_0 ≤ 1048576 := by omega
      have hrlAr0_0 := HRLAr0_0.out hbk
      refine wp_named (fun w3 hw => ?_)
      have hb3 := below_eq hw
      clear hw
      have hz3 : w2.heap.size ≤ w3.heap.size := by have := hb3.size; first | omega | (simp at this; omega)
      have hzz3 : w.heap.size ≤ w3.heap.size := by omega
      have HB3 : Hid (Below w.heap.size w w3) := below_then (by ((repeat (first | refine Below.alloc ?_ (by first | omega | (simp; done) | (simp; omega)) _ | refine Below.drew ?_)); exact HB2.out)) hb3 (by first | omega | (simp; done) | (simp; omega))
      replace HXaD : Hid (Box w3 (w.heap.size) [.slice A0_0 n0_0 c0_0]) := Box.below HXaD.out hb3
      clear hxaD hkaD
      have hxaD := HXaD.out.2
      have hkaD := HXaD.out.1
      replace HXaW : Hid (Box w3 (w.heap.size + 1) [.int .i64 e1.file, .int .i64 e1.pos, .string e1.text]) := Box.below HXaW.out hb3
      clear hxaW hkaW
      have hxaW := HXaW.out.2
      have hkaW := HXaW.out.1
      clear hb3
      obtain ⟨F, HF⟩ : ∃ F : Facts, Hid (F = fun i x t ds u => match i with
        | 0 => x.v = .agg #[.slice A0_0 n0_0 c0_0]
        | 1 => ∃ (TwA0_0 : Option Addr), x.v = .agg #[.slice TwA0_0 n0_0 n0_0] ∧ Rd u x.s x.e TwA0_0 (strs l0_0)
        | 2 => x.v = .agg #[.int .i64 e1.file, .int .i64 e1.pos, .string e1.text]
        | 3 => x.v = .agg #[.int .i64 e1.file, .int .i64 e1.pos, .string e1.text]
        | 4 => ∃ (wAr0_0 : Option Addr) (wcr0_0 : Nat), x.v = .tuple #[.agg #[.slice wAr0_0 nr0_0 wcr0_0], .bool br1] ∧ Own u x.s x.e wAr0_0 (strs lr0_0)
        | 5 => (match ds with | [y] => ∃ (wAr0_0 : Option Addr) (wcr0_0 : Nat), y.v = .tuple #[.agg #[.slice wAr0_0 nr0_0 wcr0_0], .bool br1] ∧ x.v = .tuple #[.agg #[.slice wAr0_0 nr0_0 wcr0_0], .bool br1] | _ => False)
        | 6 => (match ds with | [y] => ∃ (wAr0_0 : Option Addr) (wcr0_0 : Nat), y.v = .tuple #[.agg #[.slice wAr0_0 nr0_0 wcr0_0], .bool br1] ∧ x.v = .agg #[.slice wAr0_0 nr0_0 wcr0_0] | _ => False)
        | 7 => (match ds with | [y] => ∃ (wAr0_0 : Option Addr) (wcr0_0 : Nat), y.v = .tuple #[.agg #[.slice wAr0_0 nr0_0 wcr0_0], .bool br1] ∧ x.v = .bool br1 | _ => False)
        | 8 => x.v = .pointer (some ⟨x.s, 0, none⟩) ∧ x.s < x.e ∧ NewBox u x.s [.slice none 0 0]
        | 9 => (match ds with | [y] => t.v = .pointer (some ⟨t.s, 0, none⟩) ∧ t.s < t.e ∧ ∃ (wAr0_0 : Option Addr) (wcr0_0 : Nat), y.v = .tuple #[.agg #[.slice wAr0_0 nr0_0 wcr0_0], .bool br1] ∧ Box u t.s [.slice wAr0_0 nr0_0 wcr0_0] | _ => False)
        | 10 => (match ds with | [y] => ∃ (wAr0_0 : Option Addr) (wcr0_0 : Nat), y.v = .tuple #[.agg #[.slice wAr0_0 nr0_0 wcr0_0], .bool br1] ∧ x.v = .bool br1 | _ => False)
        | _ => False) := ⟨_, rfl⟩
      refine wp_region_facts [[], [], [], [], [], [4], [4], [4], [], [4], [4]] [none, none, none, none, none, none, none, none, none, some 8, none] [some 27, some 28, some 29, some 30, some 31, some 26, some 32, some 33, some 6, none, some 7] F (by kernel_rfl) (by kernel_rfl) (by kernel_rfl) ?_ ⟨?_, ?_, ?_, ?_, ?_, ?_, ?_, ?_, ?_, ?_, ?_, trivial⟩ ?_
      · rw [HF.out]; intro i x t ds u u' hi hf hs hW hx ht hbk
        have kx : ∀ b, x.s ≤ b → b < x.e → u'.heap[b]? = u.heap[b]? := fun b h1 h2 => hbk b (.inr (.inl ⟨h1, h2⟩))
        have kt : ∀ b, t.s ≤ b → b < t.e → u'.heap[b]? = u.heap[b]? := fun b h1 h2 => hbk b (.inr (.inr ⟨h1, h2⟩))
        clear hbk
        match i with
        | 0 => exact hf
        | 1 => obtain ⟨TwA0_0, hv, p0⟩ := hf; exact ⟨TwA0_0, hv, p0.keep hs kx⟩
        | 2 => exact hf
        | 3 => exact hf
        | 4 => obtain ⟨wAr0_0, wcr0_0, hv, p0⟩ := hf; exact ⟨wAr0_0, wcr0_0, hv, p0.keep hs kx⟩
        | 5 => exact hf
        | 6 => exact hf
        | 7 => exact hf
        | 8 => exact ⟨hf.1, hf.2.1, hf.2.2.keep hs (kx _ (Nat.le_refl _) hf.2.1)⟩
        | 9 => match ds, hf with | [y], ⟨h1, h2, wAr0_0, wcr0_0, hv, hb⟩ => exact ⟨h1, h2, wAr0_0, wcr0_0, hv, hb.keep hs (kt _ (Nat.le_refl _) h2)⟩
        | 10 => exact hf
      · intro g ρ u hc hf1 hg1 hd h0 hb he ha hF
        replace hb : Below w3.heap.size w3 u := drew_below hb
        have hbz : w3.heap.size ≤ u.heap.size := hb.size
        have r : ρ (.tmp 2) = .pointer (some ⟨w.heap.size, 0, none⟩) := (h0 2 (by decide +kernel)).trans rfl
        have q := (HXaD.out.below hb).2
        have qk := (HXaD.out.below hb).1
        clear hd h0 he ha hF
        go_simp
        rw [HF.out]
        exact ⟨Only.refl _ _ _, rfl⟩
      · intro g ρ u hc hf1 hg1 hd h0 hb he ha hF
        replace hb : Below w3.heap.size w3 u := drew_below hb
        have hbz : w3.heap.size ≤ u.heap.size := hb.size
        have f0 : (g 0).v = .agg #[.slice A0_0 n0_0 c0_0] := by have h := hF 0 (by decide +kernel) (by decide +kernel); rw [HF.out] at h; exact h
        have hv0 := f0
        have rr0 : ρ (.tmp 27) = .agg #[.slice A0_0 n0_0 c0_0] := (hd 0 (by decide +kernel) 27 (by kernel_rfl)).trans hv0
        clear hv0 f0
        clear hd h0 he ha hF
        go_simp
        refine (toDisk_c A0_0 c0_0 n0_0 l0_0 _ _ _ (hrA0_0.below (below_then HB3.out hb HB3.out.size)) HNA0_0.out hmA0_0).mono ?_
        rintro e u1 ⟨TwA0_0, rfl, le0, ho0, hb1⟩
        rw [HF.out]
        exact ⟨_, rfl, Only.of_below hb1, TwA0_0, rfl, ho0.rd.mono (by first | omega | (simp; done) | (simp; omega)) (by first | omega | (simp; done) | (simp; omega)) (Nat.le_refl _)⟩
      · intro g ρ u hc hf1 hg1 hd h0 hb he ha hF
        replace hb : Below w3.heap.size w3 u := drew_below hb
        have hbz : w3.heap.size ≤ u.heap.size := hb.size
        have r : ρ (.tmp 3) = .pointer (some ⟨w.heap.size + 1, 0, none⟩) := (h0 3 (by decide +kernel)).trans rfl
        have q := (HXaW.out.below hb).2
        have qk := (HXaW.out.below hb).1
        clear hd h0 he ha hF
        go_simp
        rw [HF.out]
        exact ⟨Only.refl _ _ _, rfl⟩
      · intro g ρ u hc hf1 hg1 hd h0 hb he ha hF
        replace hb : Below w3.heap.size w3 u := drew_below hb
        have hbz : w3.heap.size ≤ u.heap.size := hb.size
        have f2 : (g 2).v = .agg #[.int .i64 e1.file, .int .i64 e1.pos, .string e1.text] := by have h := hF 2 (by decide +kernel) (by decide +kernel); rw [HF.out] at h; exact h
        have hv2 := f2
        have rr2 : ρ (.tmp 29) = .agg #[.int .i64 e1.file, .int .i64 e1.pos, .string e1.text] := (hd 2 (by decide +kernel) 29 (by kernel_rfl)).trans hv2
        clear hv2 f2
        clear hd h0 he ha hF
        go_simp
        refine (toWrite_c e1 _).mono ?_
        rintro e u1 ⟨rfl, hb1⟩
        rw [HF.out]
        exact ⟨_, rfl, Only.of_below hb1, rfl⟩
      · intro g ρ u hc hf1 hg1 hd h0 hb he ha hF
        replace hb : Below w3.heap.size w3 u := drew_below hb
        have hbz : w3.heap.size ≤ u.heap.size := hb.size
        have f1 : ∃ (TwA0_0 : Option Addr), (g 1).v = .agg #[.slice TwA0_0 n0_0 n0_0] ∧ Rd u (g 1).s (g 1).e TwA0_0 (strs l0_0) := by have h := hF 1 (by decide +kernel) (by decide +kernel); rw [HF.out] at h; exact h
        obtain ⟨TwA0_0, hv1, rd1_0⟩ := f1
        have rr1 : ρ (.tmp 28) = .agg #[.slice TwA0_0 n0_0 n0_0] := (hd 1 (by decide +kernel) 28 (by kernel_rfl)).trans hv1
        clear hv1
        have f3 : (g 3).v = .agg #[.int .i64 e1.file, .int .i64 e1.pos, .string e1.text] := by have h := hF 3 (by decide +kernel) (by decide +kernel); rw [HF.out] at h; exact h
        have hv3 := f3
        have rr3 : ρ (.tmp 30) = .agg #[.int .i64 e1.file, .int .i64 e1.pos, .string e1.text] := (hd 3 (by decide +kernel) 30 (by kernel_rfl)).trans hv3
        clear hv3 f3
        clear hd h0 he ha hF
        go_simp
        refine (HSP hbk _ _ _ _ _ rd1_0 rfl).mono ?_
        rintro e u1 ⟨wAr0_0, wcr0_0, rfl, ho, hb1⟩
        rw [HF.out]
        exact ⟨_, rfl, Only.of_below hb1, wAr0_0, wcr0_0, rfl, ho⟩
      · intro g ρ u hc hf1 hg1 hd h0 hb he ha hF
        replace hb : Below w3.heap.size w3 u := drew_below hb
        have hbz : w3.heap.size ≤ u.heap.size := hb.size
        have f4 : ∃ (wAr0_0 : Option Addr) (wcr0_0 : Nat), (g 4).v = .tuple #[.agg #[.slice wAr0_0 nr0_0 wcr0_0], .bool br1] ∧ Own u (g 4).s (g 4).e wAr0_0 (strs lr0_0) := by have h := hF 4 (by decide +kernel) (by decide +kernel); rw [HF.out] at h; exact h
        obtain ⟨wAr0_0, wcr0_0, hv, -⟩ := f4
        have hrt := hv
        have rr : ρ (.tmp 31) = .tuple #[.agg #[.slice wAr0_0 nr0_0 wcr0_0], .bool br1] := (hd 4 (by decide +kernel) 31 (by kernel_rfl)).trans hv
        have HRT := Lib.hid hrt
        clear hrt
        clear hv hd h0 he ha hF
        go_simp
        rw [HF.out]
        exact ⟨Only.refl _ _ _, wAr0_0, wcr0_0, HRT.out, rfl⟩
      · intro g ρ u hc hf1 hg1 hd h0 hb he ha hF
        replace hb : Below w3.heap.size w3 u := drew_below hb
        have hbz : w3.heap.size ≤ u.heap.size := hb.size
        have f5 : ∃ (wAr0_0 : Option Addr) (wcr0_0 : Nat), (g 4).v = .tuple #[.agg #[.slice wAr0_0 nr0_0 wcr0_0], .bool br1] ∧ (g 5).v = .tuple #[.agg #[.slice wAr0_0 nr0_0 wcr0_0], .bool br1] := by have h := hF 5 (by decide +kernel) (by decide +kernel); rw [HF.out] at h; exact h
        obtain ⟨wAr0_0, wcr0_0, hrt, hv⟩ := f5
        have rr : ρ (.tmp 26) = .tuple #[.agg #[.slice wAr0_0 nr0_0 wcr0_0], .bool br1] := (hd 5 (by decide +kernel) 26 (by kernel_rfl)).trans hv
        have HRT := Lib.hid hrt
        clear hrt
        clear hv hd h0 he ha hF
        go_simp
        rw [HF.out]
        exact ⟨Only.refl _ _ _, wAr0_0, wcr0_0, HRT.out, rfl⟩
      · intro g ρ u hc hf1 hg1 hd h0 hb he ha hF
        replace hb : Below w3.heap.size w3 u := drew_below hb
        have hbz : w3.heap.size ≤ u.heap.size := hb.size
        have f5 : ∃ (wAr0_0 : Option Addr) (wcr0_0 : Nat), (g 4).v = .tuple #[.agg #[.slice wAr0_0 nr0_0 wcr0_0], .bool br1] ∧ (g 5).v = .tuple #[.agg #[.slice wAr0_0 nr0_0 wcr0_0], .bool br1] := by have h := hF 5 (by decide +kernel) (by decide +kernel); rw [HF.out] at h; exact h
        obtain ⟨wAr0_0, wcr0_0, hrt, hv⟩ := f5
        have rr : ρ (.tmp 26) = .tuple #[.agg #[.slice wAr0_0 nr0_0 wcr0_0], .bool br1] := (hd 5 (by decide +kernel) 26 (by kernel_rfl)).trans hv
        have HRT := Lib.hid hrt
        clear hrt
        clear hv hd h0 he ha hF
        go_simp
        rw [HF.out]
        exact ⟨Only.refl _ _ _, wAr0_0, wcr0_0, HRT.out, rfl⟩
      · intro g ρ u hc hf1 hg1 hd h0 hb he ha hF
        replace hb : Below w3.heap.size w3 u := drew_below hb
        have hbz : w3.heap.size ≤ u.heap.size := hb.size
        clear hd h0 he ha hF
        go_simp
        rw [HF.out]
        exact ⟨Only.of_below ((Below.refl _ _).alloc (Nat.le_refl _) _), rfl, by simp, NewBox.new _ _ _⟩
      · intro g ρ u hc hf1 hg1 hd h0 hb he ha hF
        replace hb : Below w3.heap.size w3 u := drew_below hb
        have hbz : w3.heap.size ≤ u.heap.size := hb.size
        have f8 : (g 8).v = .pointer (some ⟨(g 8).s, 0, none⟩) ∧ (g 8).s < (g 8).e ∧ NewBox u (g 8).s [.slice none 0 0] := by have h := hF 8 (by decide +kernel) (by decide +kernel); rw [HF.out] at h; exact h
        have f6 : ∃ (wAr0_0 : Option Addr) (wcr0_0 : Nat), (g 4).v = .tuple #[.agg #[.slice wAr0_0 nr0_0 wcr0_0], .bool br1] ∧ (g 6).v = .agg #[.slice wAr0_0 nr0_0 wcr0_0] := by have h := hF 6 (by decide +kernel) (by decide +kernel); rw [HF.out] at h; exact h
        obtain ⟨hp, hpl, hpz, hpc, hpf⟩ := f8
        obtain ⟨wAr0_0, wcr0_0, hrt, hv⟩ := f6
        have HRT := Lib.hid hrt
        clear hrt
        have r1 : ρ (.tmp 6) = .pointer (some ⟨(g 8).s, 0, none⟩) := (hd 8 (by decide +kernel) 6 (by kernel_rfl)).trans hp
        have r2 : ρ (.tmp 32) = .agg #[.slice wAr0_0 nr0_0 wcr0_0] := (hd 6 (by decide +kernel) 32 (by kernel_rfl)).trans hv
        have HP := Lib.hid hp
        have he8 := he 8 (by decide +kernel)
        obtain ⟨_, _, _⟩ := he8
        clear hp hv hd h0 he ha hF
        go_simp
        rw [HF.out]
        refine ⟨?_, HP.out, hpl, wAr0_0, wcr0_0, HRT.out, ?_⟩
        · show Only (g 8).s (g 8).e u _; refine Only.setCell ?_ (by exact Nat.le_refl _) (by exact hpl) _; exact Only.refl _ _ _
        · show Box _ (g 8).s _
          exact ⟨by simpa [World.setCell] using hpz, fun o => by rcases o with _ | o <;> go_simp⟩
      · intro g ρ u hc hf1 hg1 hd h0 hb he ha hF
        replace hb : Below w3.heap.size w3 u := drew_below hb
        have hbz : w3.heap.size ≤ u.heap.size := hb.size
        have f7 : ∃ (wAr0_0 : Option Addr) (wcr0_0 : Nat), (g 4).v = .tuple #[.agg #[.slice wAr0_0 nr0_0 wcr0_0], .bool br1] ∧ (g 7).v = .bool br1 := by have h := hF 7 (by decide +kernel) (by decide +kernel); rw [HF.out] at h; exact h
        obtain ⟨wAr0_0, wcr0_0, hrt, hv⟩ := f7
        have rr : ρ (.tmp 33) = .bool br1 := (hd 7 (by decide +kernel) 33 (by kernel_rfl)).trans hv
        have HRT := Lib.hid hrt
        clear hrt
        clear hv hd h0 he ha hF
        go_simp
        rw [HF.out]
        exact ⟨Only.refl _ _ _, wAr0_0, wcr0_0, HRT.out, rfl⟩
      intro g w4 hB hE hA hF
      replace hB : Below w3.heap.size w3 w4 := drew_below hB
      have f0 : (g 0).v = .agg #[.slice A0_0 n0_0 c0_0] := by have h := hF 0 (by decide +kernel) (by decide +kernel); rw [HF.out] at h; exact h
      have f1 : ∃ (TwA0_0 : Option Addr), (g 1).v = .agg #[.slice TwA0_0 n0_0 n0_0] ∧ Rd w4 (g 1).s (g 1).e TwA0_0 (strs l0_0) := by have h := hF 1 (by decide +kernel) (by decide +kernel); rw [HF.out] at h; exact h
      have f2 : (g 2).v = .agg #[.int .i64 e1.file, .int .i64 e1.pos, .string e1.text] := by have h := hF 2 (by decide +kernel) (by decide +kernel); rw [HF.out] at h; exact h
      have f3 : (g 3).v = .agg #[.int .i64 e1.file, .int .i64 e1.pos, .string e1.text] := by have h := hF 3 (by decide +kernel) (by decide +kernel); rw [HF.out] at h; exact h
      have f4 : ∃ (wAr0_0 : Option Addr) (wcr0_0 : Nat), (g 4).v = .tuple #[.agg #[.slice wAr0_0 nr0_0 wcr0_0], .bool br1] ∧ Own w4 (g 4).s (g 4).e wAr0_0 (strs lr0_0) := by have h := hF 4 (by decide +kernel) (by decide +kernel); rw [HF.out] at h; exact h
      have f5 : ∃ (wAr0_0 : Option Addr) (wcr0_0 : Nat), (g 4).v = .tuple #[.agg #[.slice wAr0_0 nr0_0 wcr0_0], .bool br1] ∧ (g 5).v = .tuple #[.agg #[.slice wAr0_0 nr0_0 wcr0_0], .bool br1] := by have h := hF 5 (by decide +kernel) (by decide +kernel); rw [HF.out] at h; exact h
      have f6 : ∃ (wAr0_0 : Option Addr) (wcr0_0 : Nat), (g 4).v = .tuple #[.agg #[.slice wAr0_0 nr0_0 wcr0_0], .bool br1] ∧ (g 6).v = .agg #[.slice wAr0_0 nr0_0 wcr0_0] := by have h := hF 6 (by decide +kernel) (by decide +kernel); rw [HF.out] at h; exact h
      have f7 : ∃ (wAr0_0 : Option Addr) (wcr0_0 : Nat), (g 4).v = .tuple #[.agg #[.slice wAr0_0 nr0_0 wcr0_0], .bool br1] ∧ (g 7).v = .bool br1 := by have h := hF 7 (by decide +kernel) (by decide +kernel); rw [HF.out] at h; exact h
      have f9 : (g 8).v = .pointer (some ⟨(g 8).s, 0, none⟩) ∧ (g 8).s < (g 8).e ∧ ∃ (wAr0_0 : Option Addr) (wcr0_0 : Nat), (g 4).v = .tuple #[.agg #[.slice wAr0_0 nr0_0 wcr0_0], .bool br1] ∧ Box w4 (g 8).s [.slice wAr0_0 nr0_0 wcr0_0] := by have h := hF 9 (by decide +kernel) (by decide +kernel); rw [HF.out] at h; exact h
      have f10 : ∃ (wAr0_0 : Option Addr) (wcr0_0 : Nat), (g 4).v = .tuple #[.agg #[.slice wAr0_0 nr0_0 wcr0_0], .bool br1] ∧ (g 10).v = .bool br1 := by have h := hF 10 (by decide +kernel) (by decide +kernel); rw [HF.out] at h; exact h
      obtain ⟨wAr0_0, wcr0_0, hv4, ho0⟩ := f4
      have hv0 := f0
      obtain ⟨x1_0, hv1, -⟩ := f1
      have hv2 := f2
      have hv3 := f3
      obtain ⟨wAr0_0_5, wcr0_0_5, hu, hv5⟩ := f5
      replace hu := hv4.symm.trans hu
      simp at hu
      obtain ⟨rfl, rfl⟩ := hu
      obtain ⟨wAr0_0_6, wcr0_0_6, hu, hv6⟩ := f6
      replace hu := hv4.symm.trans hu
      simp at hu
      obtain ⟨rfl, rfl⟩ := hu
      obtain ⟨wAr0_0_7, wcr0_0_7, hu, hv7⟩ := f7
      replace hu := hv4.symm.trans hu
      simp at hu
      obtain ⟨rfl, rfl⟩ := hu
      obtain ⟨hv8, hl8, f9⟩ := f9
      obtain ⟨wAr0_0_9, wcr0_0_9, hu, hx9⟩ := f9
      replace hu := hv4.symm.trans hu
      simp at hu
      obtain ⟨rfl, rfl⟩ := hu
      obtain ⟨wAr0_0_10, wcr0_0_10, hu, hv10⟩ := f10
      replace hu := hv4.symm.trans hu
      simp at hu
      obtain ⟨rfl, rfl⟩ := hu
      obtain ⟨hs4, hse4, he4⟩ := hE 4 (by decide +kernel)
      obtain ⟨hs8, hse8, he8⟩ := hE 8 (by decide +kernel)
      have hd4_8 := hA 4 (by decide +kernel) 8 (by decide +kernel) (by decide)
      change w3.heap.size ≤ _ at hs4 hs8
      clear hE hA hF
      simp only [putDs, Nat.reduceAdd, hv0, hv1, hv2, hv3, hv4, hv5, hv6, hv7, hv8, hv10]
      clear hv0 hv1 hv2 hv3 hv4 hv5 hv6 hv7 hv8 hv10
      generalize (g 4).s = s4_4 at *
      generalize (g 4).e = e4_4 at *
      generalize (g 8).s = s4_8 at *
      generalize (g 8).e = e4_8 at *
      have HSw0 := Lib.hid hx9
      clear hx9
      clear HF
      have hb4 := hB
      have hz4 : w3.heap.size ≤ w4.heap.size := by have := hb4.size; first | omega | (simp at this; omega)
      have hzz4 : w.heap.size ≤ w4.heap.size := by omega
      have HB4 : Hid (Below w.heap.size w w4) := below_then (by ((repeat (first | refine Below.alloc ?_ (by first | omega | (simp; done) | (simp; omega)) _ | refine Below.drew ?_)); exact HB3.out)) hb4 (by first | omega | (simp; done) | (simp; omega))
      replace HXaD : Hid (Box w4 (w.heap.size) [.slice A0_0 n0_0 c0_0]) := Box.below HXaD.out hb4
      clear hxaD hkaD
      have hxaD := HXaD.out.2
      have hkaD := HXaD.out.1
      replace HXaW : Hid (Box w4 (w.heap.size + 1) [.int .i64 e1.file, .int .i64 e1.pos, .string e1.text]) := Box.below HXaW.out hb4
      clear hxaW hkaW
      have hxaW := HXaW.out.2
      have hkaW := HXaW.out.1
      clear hB hb4
      have HOwAr0_0 := Lib.hid ho0
      clear ho0
      have HXw0 : Hid (Box w4 (s4_8) [.slice wAr0_0 nr0_0 wcr0_0]) := HSw0
      clear HSw0
      have hxw0 := HXw0.out.2
      have hkw0 := HXw0.out.1
      go_wp2_with fail
      refine (toDisk_c A0_0 c0_0 n0_0 l0_0 _ _ _ (hrA0_0.below (by ((repeat (first | refine Below.alloc ?_ (by first | omega | (simp; done) | (simp; omega)) _ | refine Below.drew ?_)); exact HB4.out))) HNA0_0.out hmA0_0).mono ?_
      rintro e w5 ⟨Tx0A0_0, rfl, le5_0, ho0, hb5⟩
      have hz5 : w4.heap.size ≤ w5.heap.size := by have := hb5.size; first | omega | (simp at this; omega)
      have hzz5 : w.heap.size ≤ w5.heap.size := by omega
      have HB5 : Hid (Below w.heap.size w w5) := below_then (by ((repeat (first | refine Below.alloc ?_ (by first | omega | (simp; done) | (simp; omega)) _ | refine Below.drew ?_)); exact HB4.out)) hb5 (by first | omega | (simp; done) | (simp; omega))
      replace HXaD : Hid (Box w5 (w.heap.size) [.slice A0_0 n0_0 c0_0]) := Box.below HXaD.out hb5
      clear hxaD hkaD
      have hxaD := HXaD.out.2
      have hkaD := HXaD.out.1
      replace HXaW : Hid (Box w5 (w.heap.size + 1) [.int .i64 e1.file, .int .i64 e1.pos, .string e1.text]) := Box.below HXaW.out hb5
      clear hxaW hkaW
      have hxaW := HXaW.out.2
      have hkaW := HXaW.out.1
      replace HXw0 : Hid (Box w5 (s4_8) [.slice wAr0_0 nr0_0 wcr0_0]) := Box.below HXw0.out hb5
      clear hxw0 hkw0
      have hxw0 := HXw0.out.2
      have hkw0 := HXw0.out.1
      replace HOwAr0_0 : Hid (Own w5 s4_4 e4_4 wAr0_0 (strs lr0_0)) := HOwAr0_0.out.below hb5
      obtain ⟨qTx0A0_0, hqTx0A0_0, hqqTx0A0_0, HOTx0A0_0⟩ : ∃ q, w4.heap.size ≤ q ∧ w5.heap.size ≤ w5.heap.size ∧ Hid (Own w5 q w5.heap.size Tx0A0_0 (strs l0_0)) := ⟨_, by first | omega | (simp at *; done) | (simp at *; omega), by first | omega | (simp at *; done) | (simp at *; omega), ho0⟩
      clear hb5 ho0
      go_wp2_with fail
      refine wp_named (fun w6 hw => ?_)
      have hb6 := below_eq hw
      clear hw
      have hz6 : w5.heap.size + 1 ≤ w6.heap.size := by have := hb6.size; first | omega | (simp at this; omega)
      have hzz6 : w.heap.size ≤ w6.heap.size := by omega
      have HB6 : Hid (Below w.heap.size w w6) := below_then (by ((repeat (first | refine Below.alloc ?_ (by first | omega | (simp; done) | (simp; omega)) _ | refine Below.drew ?_)); exact HB5.out)) hb6 (by first | omega | (simp; done) | (simp; omega))
      replace HXaD : Hid (Box w6 (w.heap.size) [.slice A0_0 n0_0 c0_0]) := Box.below (HXaD.out.alloc _) hb6
      clear hxaD hkaD
      have hxaD := HXaD.out.2
      have hkaD := HXaD.out.1
      replace HXaW : Hid (Box w6 (w.heap.size + 1) [.int .i64 e1.file, .int .i64 e1.pos, .string e1.text]) := Box.below (HXaW.out.alloc _) hb6
      clear hxaW hkaW
      have hxaW := HXaW.out.2
      have hkaW := HXaW.out.1
      replace HXw0 : Hid (Box w6 (s4_8) [.slice wAr0_0 nr0_0 wcr0_0]) := Box.below (HXw0.out.alloc _) hb6
      clear hxw0 hkw0
      have hxw0 := HXw0.out.2
      have hkw0 := HXw0.out.1
      have HXx0 : Hid (Box w6 (w5.heap.size) [.slice Tx0A0_0 n0_0 n0_0]) := Box.below (Box.new0 _ _ _) hb6
      have hxx0 := HXx0.out.2
      have hkx0 := HXx0.out.1
      replace HOwAr0_0 : Hid (Own w6 s4_4 e4_4 wAr0_0 (strs lr0_0)) := (HOwAr0_0.out.alloc _).below hb6
      replace HOTx0A0_0 : Hid (Own w6 qTx0A0_0 w5.heap.size Tx0A0_0 (strs l0_0)) := (HOTx0A0_0.out.alloc _).below hb6
      clear hb6
      obtain ⟨F, HF⟩ : ∃ F : Facts, Hid (F = fun i x t ds u => match i with
        | 0 => x.v = .agg #[.slice Tx0A0_0 n0_0 n0_0]
        | 1 => x.v = .agg #[.int .i64 e1.file, .int .i64 e1.pos, .string e1.text]
        | 2 => x.v = .agg #[.int .i64 e1.file, .int .i64 e1.pos, .string e1.text]
        | 3 => ∃ (gAr0_0 : Option Addr) (gcr0_0 : Nat), x.v = .tuple #[.agg #[.slice gAr0_0 nr0_0 gcr0_0], .bool br1] ∧ Own u x.s x.e gAr0_0 (strs lr0_0)
        | 4 => (match ds with | [y] => ∃ (gAr0_0 : Option Addr) (gcr0_0 : Nat), y.v = .tuple #[.agg #[.slice gAr0_0 nr0_0 gcr0_0], .bool br1] ∧ x.v = .tuple #[.agg #[.slice gAr0_0 nr0_0 gcr0_0], .bool br1] | _ => False)
        | 5 => (match ds with | [y] => ∃ (gAr0_0 : Option Addr) (gcr0_0 : Nat), y.v = .tuple #[.agg #[.slice gAr0_0 nr0_0 gcr0_0], .bool br1] ∧ x.v = .agg #[.slice gAr0_0 nr0_0 gcr0_0] | _ => False)
        | 6 => (match ds with | [y] => ∃ (gAr0_0 : Option Addr) (gcr0_0 : Nat), y.v = .tuple #[.agg #[.slice gAr0_0 nr0_0 gcr0_0], .bool br1] ∧ x.v = .bool br1 | _ => False)
        | 7 => x.v = .pointer (some ⟨x.s, 0, none⟩) ∧ x.s < x.e ∧ NewBox u x.s [.slice none 0 0]
        | 8 => (match ds with | [y] => t.v = .pointer (some ⟨t.s, 0, none⟩) ∧ t.s < t.e ∧ ∃ (gAr0_0 : Option Addr) (gcr0_0 : Nat), y.v = .tuple #[.agg #[.slice gAr0_0 nr0_0 gcr0_0], .bool br1] ∧ Box u t.s [.slice gAr0_0 nr0_0 gcr0_0] | _ => False)
        | 9 => (match ds with | [y] => ∃ (gAr0_0 : Option Addr) (gcr0_0 : Nat), y.v = .tuple #[.agg #[.slice gAr0_0 nr0_0 gcr0_0], .bool br1] ∧ x.v = .bool br1 | _ => False)
        | _ => False) := ⟨_, rfl⟩
      refine wp_region_facts [[], [], [], [], [3], [3], [3], [], [3], [3]] [none, none, none, none, none, none, none, none, some 7, none] [some 37, some 38, some 39, some 40, some 36, some 41, some 42, some 9, none, some 10] F (by kernel_rfl) (by kernel_rfl) (by kernel_rfl) ?_ ⟨?_, ?_, ?_, ?_, ?_, ?_, ?_, ?_, ?_, ?_, trivial⟩ ?_
      · rw [HF.out]; intro i x t ds u u' hi hf hs hW hx ht hbk
        have kx : ∀ b, x.s ≤ b → b < x.e → u'.heap[b]? = u.heap[b]? := fun b h1 h2 => hbk b (.inr (.inl ⟨h1, h2⟩))
        have kt : ∀ b, t.s ≤ b → b < t.e → u'.heap[b]? = u.heap[b]? := fun b h1 h2 => hbk b (.inr (.inr ⟨h1, h2⟩))
        clear hbk
        match i with
        | 0 => exact hf
        | 1 => exact hf
        | 2 => exact hf
        | 3 => obtain ⟨gAr0_0, gcr0_0, hv, p0⟩ := hf; exact ⟨gAr0_0, gcr0_0, hv, p0.keep hs kx⟩
        | 4 => exact hf
        | 5 => exact hf
        | 6 => exact hf
        | 7 => exact ⟨hf.1, hf.2.1, hf.2.2.keep hs (kx _ (Nat.le_refl _) hf.2.1)⟩
        | 8 => match ds, hf with | [y], ⟨h1, h2, gAr0_0, gcr0_0, hv, hb⟩ => exact ⟨h1, h2, gAr0_0, gcr0_0, hv, hb.keep hs (kt _ (Nat.le_refl _) h2)⟩
        | 9 => exact hf
      · intro g ρ u hc hf1 hg1 hd h0 hb he ha hF
        replace hb : Below w6.heap.size w6 u := drew_below hb
        have hbz : w6.heap.size ≤ u.heap.size := hb.size
        have r : ρ (.tmp 8) = .pointer (some ⟨w5.heap.size, 0, none⟩) := (h0 8 (by decide +kernel)).trans rfl
        have q := (HXx0.out.below hb).2
        have qk := (HXx0.out.below hb).1
        clear hd h0 he ha hF
        go_simp
        rw [HF.out]
        exact ⟨Only.refl _ _ _, rfl⟩
      · intro g ρ u hc hf1 hg1 hd h0 hb he ha hF
        replace hb : Below w6.heap.size w6 u := drew_below hb
        have hbz : w6.heap.size ≤ u.heap.size := hb.size
        have r : ρ (.tmp 3) = .pointer (some ⟨w.heap.size + 1, 0, none⟩) := (h0 3 (by decide +kernel)).trans rfl
        have q := (HXaW.out.below hb).2
        have qk := (HXaW.out.below hb).1
        clear hd h0 he ha hF
        go_simp
        rw [HF.out]
        exact ⟨Only.refl _ _ _, rfl⟩
      · intro g ρ u hc hf1 hg1 hd h0 hb he ha hF
        replace hb : Below w6.heap.size w6 u := drew_below hb
        have hbz : w6.heap.size ≤ u.heap.size := hb.size
        have f1 : (g 1).v = .agg #[.int .i64 e1.file, .int .i64 e1.pos, .string e1.text] := by have h := hF 1 (by decide +kernel) (by decide +kernel); rw [HF.out] at h; exact h
        have hv1 := f1
        have rr1 : ρ (.tmp 38) = .agg #[.int .i64 e1.file, .int .i64 e1.pos, .string e1.text] := (hd 1 (by decide +kernel) 38 (by kernel_rfl)).trans hv1
        clear hv1 f1
        clear hd h0 he ha hF
        go_simp
        refine (toWrite_c e1 _).mono ?_
        rintro e u1 ⟨rfl, hb1⟩
        rw [HF.out]
        exact ⟨_, rfl, Only.of_below hb1, rfl⟩
      · intro g ρ u hc hf1 hg1 hd h0 hb he ha hF
        replace hb : Below w6.heap.size w6 u := drew_below hb
        have hbz : w6.heap.size ≤ u.heap.size := hb.size
        have f0 : (g 0).v = .agg #[.slice Tx0A0_0 n0_0 n0_0] := by have h := hF 0 (by decide +kernel) (by decide +kernel); rw [HF.out] at h; exact h
        have hv0 := f0
        have rr0 : ρ (.tmp 37) = .agg #[.slice Tx0A0_0 n0_0 n0_0] := (hd 0 (by decide +kernel) 37 (by kernel_rfl)).trans hv0
        clear hv0 f0
        have f2 : (g 2).v = .agg #[.int .i64 e1.file, .int .i64 e1.pos, .string e1.text] := by have h := hF 2 (by decide +kernel) (by decide +kernel); rw [HF.out] at h; exact h
        have hv2 := f2
        have rr2 : ρ (.tmp 39) = .agg #[.int .i64 e1.file, .int .i64 e1.pos, .string e1.text] := (hd 2 (by decide +kernel) 39 (by kernel_rfl)).trans hv2
        clear hv2 f2
        clear hd h0 he ha hF
        go_simp
        refine (HIM hbk _ _ _ _ _ (HOTx0A0_0.out.rd.below hb) rfl).mono ?_
        rintro e u1 ⟨gAr0_0, gcr0_0, rfl, ho, hb1⟩
        rw [HF.out]
        exact ⟨_, rfl, Only.of_below hb1, gAr0_0, gcr0_0, rfl, ho⟩
      · intro g ρ u hc hf1 hg1 hd h0 hb he ha hF
        replace hb : Below w6.heap.size w6 u := drew_below hb
        have hbz : w6.heap.size ≤ u.heap.size := hb.size
        have f3 : ∃ (gAr0_0 : Option Addr) (gcr0_0 : Nat), (g 3).v = .tuple #[.agg #[.slice gAr0_0 nr0_0 gcr0_0], .bool br1] ∧ Own u (g 3).s (g 3).e gAr0_0 (strs lr0_0) := by have h := hF 3 (by decide +kernel) (by decide +kernel); rw [HF.out] at h; exact h
        obtain ⟨gAr0_0, gcr0_0, hv, -⟩ := f3
        have hrt := hv
        have rr : ρ (.tmp 40) = .tuple #[.agg #[.slice gAr0_0 nr0_0 gcr0_0], .bool br1] := (hd 3 (by decide +kernel) 40 (by kernel_rfl)).trans hv
        have HRT := Lib.hid hrt
        clear hrt
        clear hv hd h0 he ha hF
        go_simp
        rw [HF.out]
        exact ⟨Only.refl _ _ _, gAr0_0, gcr0_0, HRT.out, rfl⟩
      · intro g ρ u hc hf1 hg1 hd h0 hb he ha hF
        replace hb : Below w6.heap.size w6 u := drew_below hb
        have hbz : w6.heap.size ≤ u.heap.size := hb.size
        have f4 : ∃ (gAr0_0 : Option Addr) (gcr0_0 : Nat), (g 3).v = .tuple #[.agg #[.slice gAr0_0 nr0_0 gcr0_0], .bool br1] ∧ (g 4).v = .tuple #[.agg #[.slice gAr0_0 nr0_0 gcr0_0], .bool br1] := by have h := hF 4 (by decide +kernel) (by decide +kernel); rw [HF.out] at h; exact h
        obtain ⟨gAr0_0, gcr0_0, hrt, hv⟩ := f4
        have rr : ρ (.tmp 36) = .tuple #[.agg #[.slice gAr0_0 nr0_0 gcr0_0], .bool br1] := (hd 4 (by decide +kernel) 36 (by kernel_rfl)).trans hv
        have HRT := Lib.hid hrt
        clear hrt
        clear hv hd h0 he ha hF
        go_simp
        rw [HF.out]
        exact ⟨Only.refl _ _ _, gAr0_0, gcr0_0, HRT.out, rfl⟩
      · intro g ρ u hc hf1 hg1 hd h0 hb he ha hF
        replace hb : Below w6.heap.size w6 u := drew_below hb
        have hbz : w6.heap.size ≤ u.heap.size := hb.size
        have f4 : ∃ (gAr0_0 : Option Addr) (gcr0_0 : Nat), (g 3).v = .tuple #[.agg #[.slice gAr0_0 nr0_0 gcr0_0], .bool br1] ∧ (g 4).v = .tuple #[.agg #[.slice gAr0_0 nr0_0 gcr0_0], .bool br1] := by have h := hF 4 (by decide +kernel) (by decide +kernel); rw [HF.out] at h; exact h
        obtain ⟨gAr0_0, gcr0_0, hrt, hv⟩ := f4
        have rr : ρ (.tmp 36) = .tuple #[.agg #[.slice gAr0_0 nr0_0 gcr0_0], .bool br1] := (hd 4 (by decide +kernel) 36 (by kernel_rfl)).trans hv
        have HRT := Lib.hid hrt
        clear hrt
        clear hv hd h0 he ha hF
        go_simp
        rw [HF.out]
        exact ⟨Only.refl _ _ _, gAr0_0, gcr0_0, HRT.out, rfl⟩
      · intro g ρ u hc hf1 hg1 hd h0 hb he ha hF
        replace hb : Below w6.heap.size w6 u := drew_below hb
        have hbz : w6.heap.size ≤ u.heap.size := hb.size
        clear hd h0 he ha hF
        go_simp
        rw [HF.out]
        exact ⟨Only.of_below ((Below.refl _ _).alloc (Nat.le_refl _) _), rfl, by simp, NewBox.new _ _ _⟩
      · intro g ρ u hc hf1 hg1 hd h0 hb he ha hF
        replace hb : Below w6.heap.size w6 u := drew_below hb
        have hbz : w6.heap.size ≤ u.heap.size := hb.size
        have f7 : (g 7).v = .pointer (some ⟨(g 7).s, 0, none⟩) ∧ (g 7).s < (g 7).e ∧ NewBox u (g 7).s [.slice none 0 0] := by have h := hF 7 (by decide +kernel) (by decide +kernel); rw [HF.out] at h; exact h
        have f5 : ∃ (gAr0_0 : Option Addr) (gcr0_0 : Nat), (g 3).v = .tuple #[.agg #[.slice gAr0_0 nr0_0 gcr0_0], .bool br1] ∧ (g 5).v = .agg #[.slice gAr0_0 nr0_0 gcr0_0] := by have h := hF 5 (by decide +kernel) (by decide +kernel); rw [HF.out] at h; exact h
        obtain ⟨hp, hpl, hpz, hpc, hpf⟩ := f7
        obtain ⟨gAr0_0, gcr0_0, hrt, hv⟩ := f5
        have HRT := Lib.hid hrt
        clear hrt
        have r1 : ρ (.tmp 9) = .pointer (some ⟨(g 7).s, 0, none⟩) := (hd 7 (by decide +kernel) 9 (by kernel_rfl)).trans hp
        have r2 : ρ (.tmp 41) = .agg #[.slice gAr0_0 nr0_0 gcr0_0] := (hd 5 (by decide +kernel) 41 (by kernel_rfl)).trans hv
        have HP := Lib.hid hp
        have he7 := he 7 (by decide +kernel)
        obtain ⟨_, _, _⟩ := he7
        clear hp hv hd h0 he ha hF
        go_simp
        rw [HF.out]
        refine ⟨?_, HP.out, hpl, gAr0_0, gcr0_0, HRT.out, ?_⟩
        · show Only (g 7).s (g 7).e u _; refine Only.setCell ?_ (by exact Nat.le_refl _) (by exact hpl) _; exact Only.refl _ _ _
        · show Box _ (g 7).s _
          exact ⟨by simpa [World.setCell] using hpz, fun o => by rcases o with _ | o <;> go_simp⟩
      · intro g ρ u hc hf1 hg1 hd h0 hb he ha hF
        replace hb : Below w6.heap.size w6 u := drew_below hb
        have hbz : w6.heap.size ≤ u.heap.size := hb.size
        have f6 : ∃ (gAr0_0 : Option Addr) (gcr0_0 : Nat), (g 3).v = .tuple #[.agg #[.slice gAr0_0 nr0_0 gcr0_0], .bool br1] ∧ (g 6).v = .bool br1 := by have h := hF 6 (by decide +kernel) (by decide +kernel); rw [HF.out] at h; exact h
        obtain ⟨gAr0_0, gcr0_0, hrt, hv⟩ := f6
        have rr : ρ (.tmp 42) = .bool br1 := (hd 6 (by decide +kernel) 42 (by kernel_rfl)).trans hv
        have HRT := Lib.hid hrt
        clear hrt
        clear hv hd h0 he ha hF
        go_simp
        rw [HF.out]
        exact ⟨Only.refl _ _ _, gAr0_0, gcr0_0, HRT.out, rfl⟩
      intro g w7 hB hE hA hF
      replace hB : Below w6.heap.size w6 w7 := drew_below hB
      have f0 : (g 0).v = .agg #[.slice Tx0A0_0 n0_0 n0_0] := by have h := hF 0 (by decide +kernel) (by decide +kernel); rw [HF.out] at h; exact h
      have f1 : (g 1).v = .agg #[.int .i64 e1.file, .int .i64 e1.pos, .string e1.text] := by have h := hF 1 (by decide +kernel) (by decide +kernel); rw [HF.out] at h; exact h
      have f2 : (g 2).v = .agg #[.int .i64 e1.file, .int .i64 e1.pos, .string e1.text] := by have h := hF 2 (by decide +kernel) (by decide +kernel); rw [HF.out] at h; exact h
      have f3 : ∃ (gAr0_0 : Option Addr) (gcr0_0 : Nat), (g 3).v = .tuple #[.agg #[.slice gAr0_0 nr0_0 gcr0_0], .bool br1] ∧ Own w7 (g 3).s (g 3).e gAr0_0 (strs lr0_0) := by have h := hF 3 (by decide +kernel) (by decide +kernel); rw [HF.out] at h; exact h
      have f4 : ∃ (gAr0_0 : Option Addr) (gcr0_0 : Nat), (g 3).v = .tuple #[.agg #[.slice gAr0_0 nr0_0 gcr0_0], .bool br1] ∧ (g 4).v = .tuple #[.agg #[.slice gAr0_0 nr0_0 gcr0_0], .bool br1] := by have h := hF 4 (by decide +kernel) (by decide +kernel); rw [HF.out] at h; exact h
      have f5 : ∃ (gAr0_0 : Option Addr) (gcr0_0 : Nat), (g 3).v = .tuple #[.agg #[.slice gAr0_0 nr0_0 gcr0_0], .bool br1] ∧ (g 5).v = .agg #[.slice gAr0_0 nr0_0 gcr0_0] := by have h := hF 5 (by decide +kernel) (by decide +kernel); rw [HF.out] at h; exact h
      have f6 : ∃ (gAr0_0 : Option Addr) (gcr0_0 : Nat), (g 3).v = .tuple #[.agg #[.slice gAr0_0 nr0_0 gcr0_0], .bool br1] ∧ (g 6).v = .bool br1 := by have h := hF 6 (by decide +kernel) (by decide +kernel); rw [HF.out] at h; exact h
      have f8 : (g 7).v = .pointer (some ⟨(g 7).s, 0, none⟩) ∧ (g 7).s < (g 7).e ∧ ∃ (gAr0_0 : Option Addr) (gcr0_0 : Nat), (g 3).v = .tuple #[.agg #[.slice gAr0_0 nr0_0 gcr0_0], .bool br1] ∧ Box w7 (g 7).s [.slice gAr0_0 nr0_0 gcr0_0] := by have h := hF 8 (by decide +kernel) (by decide +kernel); rw [HF.out] at h; exact h
      have f9 : ∃ (gAr0_0 : Option Addr) (gcr0_0 : Nat), (g 3).v = .tuple #[.agg #[.slice gAr0_0 nr0_0 gcr0_0], .bool br1] ∧ (g 9).v = .bool br1 := by have h := hF 9 (by decide +kernel) (by decide +kernel); rw [HF.out] at h; exact h
      obtain ⟨gAr0_0, gcr0_0, hv3, ho0⟩ := f3
      have hv0 := f0
      have hv1 := f1
      have hv2 := f2
      obtain ⟨gAr0_0_4, gcr0_0_4, hu, hv4⟩ := f4
      replace hu := hv3.symm.trans hu
      simp at hu
      obtain ⟨rfl, rfl⟩ := hu
      obtain ⟨gAr0_0_5, gcr0_0_5, hu, hv5⟩ := f5
      replace hu := hv3.symm.trans hu
      simp at hu
      obtain ⟨rfl, rfl⟩ := hu
      obtain ⟨gAr0_0_6, gcr0_0_6, hu, hv6⟩ := f6
      replace hu := hv3.symm.trans hu
      simp at hu
      obtain ⟨rfl, rfl⟩ := hu
      obtain ⟨hv7, hl7, f8⟩ := f8
      obtain ⟨gAr0_0_8, gcr0_0_8, hu, hx8⟩ := f8
      replace hu := hv3.symm.trans hu
      simp at hu
      obtain ⟨rfl, rfl⟩ := hu
      obtain ⟨gAr0_0_9, gcr0_0_9, hu, hv9⟩ := f9
      replace hu := hv3.symm.trans hu
      simp at hu
      obtain ⟨rfl, rfl⟩ := hu
      obtain ⟨hs3, hse3, he3⟩ := hE 3 (by decide +kernel)
      obtain ⟨hs7, hse7, he7⟩ := hE 7 (by decide +kernel)
      have hd3_7 := hA 3 (by decide +kernel) 7 (by decide +kernel) (by decide)
      change w6.heap.size ≤ _ at hs3 hs7
      clear hE hA hF
      simp only [putDs, Nat.reduceAdd, hv0, hv1, hv2, hv3, hv4, hv5, hv6, hv7, hv9]
      clear hv0 hv1 hv2 hv3 hv4 hv5 hv6 hv7 hv9
      generalize (g 3).s = s7_3 at *
      generalize (g 3).e = e7_3 at *
      generalize (g 7).s = s7_7 at *
      generalize (g 7).e = e7_7 at *
      have HSg0 := Lib.hid hx8
      clear hx8
      clear HF
      have hb7 := hB
      have hz7 : w6.heap.size ≤ w7.heap.size := by have := hb7.size; first | omega | (simp at this; omega)
      have hzz7 : w.heap.size ≤ w7.heap.size := by omega
      have HB7 : Hid (Below w.heap.size w w7) := below_then (by ((repeat (first | refine Below.alloc ?_ (by first | omega | (simp; done) | (simp; omega)) _ | refine Below.drew ?_)); exact HB6.out)) hb7 (by first | omega | (simp; done) | (simp; omega))
      replace HXaD : Hid (Box w7 (w.heap.size) [.slice A0_0 n0_0 c0_0]) := Box.below HXaD.out hb7
      clear hxaD hkaD
      have hxaD := HXaD.out.2
      have hkaD := HXaD.out.1
      replace HXaW : Hid (Box w7 (w.heap.size + 1) [.int .i64 e1.file, .int .i64 e1.pos, .string e1.text]) := Box.below HXaW.out hb7
      clear hxaW hkaW
      have hxaW := HXaW.out.2
      have hkaW := HXaW.out.1
      replace HXw0 : Hid (Box w7 (s4_8) [.slice wAr0_0 nr0_0 wcr0_0]) := Box.below HXw0.out hb7
      clear hxw0 hkw0
      have hxw0 := HXw0.out.2
      have hkw0 := HXw0.out.1
      replace HXx0 : Hid (Box w7 (w5.heap.size) [.slice Tx0A0_0 n0_0 n0_0]) := Box.below HXx0.out hb7
      clear hxx0 hkx0
      have hxx0 := HXx0.out.2
      have hkx0 := HXx0.out.1
      replace HOwAr0_0 : Hid (Own w7 s4_4 e4_4 wAr0_0 (strs lr0_0)) := HOwAr0_0.out.below hb7
      replace HOTx0A0_0 : Hid (Own w7 qTx0A0_0 w5.heap.size Tx0A0_0 (strs l0_0)) := HOTx0A0_0.out.below hb7
      clear hB hb7
      have HOgAr0_0 := Lib.hid ho0
      clear ho0
      have HXg0 : Hid (Box w7 (s7_7) [.slice gAr0_0 nr0_0 gcr0_0]) := HSg0
      clear HSg0
      have hxg0 := HXg0.out.2
      have hkg0 := HXg0.out.1
      go_wp2_with fail
      refine (eqDisk_c  gAr0_0 gcr0_0 nr0_0 lr0_0 wAr0_0 wcr0_0 _ _ _ _  _ (HOgAr0_0.out.rd) (HOwAr0_0.out.rd) HRNAr0_0.out (by unfold maxLen; omega)).mono ?_
      rintro e w8 ⟨rfl, hb8⟩
      have hz8 : w7.heap.size ≤ w8.heap.size := by have := hb8.size; first | omega | (simp at this; omega)
      have hzz8 : w.heap.size ≤ w8.heap.size := by omega
      have HB8 : Hid (Below w.heap.size w w8) := below_then (by ((repeat (first | refine Below.alloc ?_ (by first | omega | (simp; done) | (simp; omega)) _ | refine Below.drew ?_)); exact HB7.out)) hb8 (by first | omega | (simp; done) | (simp; omega))
      replace HXaD : Hid (Box w8 (w.heap.size) [.slice A0_0 n0_0 c0_0]) := Box.below HXaD.out hb8
      clear hxaD hkaD
      have hxaD := HXaD.out.2
      have hkaD := HXaD.out.1
      replace HXaW : Hid (Box w8 (w.heap.size + 1) [.int .i64 e1.file, .int .i64 e1.pos, .string e1.text]) := Box.below HXaW.out hb8
      clear hxaW hkaW
      have hxaW := HXaW.out.2
      have hkaW := HXaW.out.1
      replace HXw0 : Hid (Box w8 (s4_8) [.slice wAr0_0 nr0_0 wcr0_0]) := Box.below HXw0.out hb8
      clear hxw0 hkw0
      have hxw0 := HXw0.out.2
      have hkw0 := HXw0.out.1
      replace HXx0 : Hid (Box w8 (w5.heap.size) [.slice Tx0A0_0 n0_0 n0_0]) := Box.below HXx0.out hb8
      clear hxx0 hkx0
      have hxx0 := HXx0.out.2
      have hkx0 := HXx0.out.1
      replace HXg0 : Hid (Box w8 (s7_7) [.slice gAr0_0 nr0_0 gcr0_0]) := Box.below HXg0.out hb8
      clear hxg0 hkg0
      have hxg0 := HXg0.out.2
      have hkg0 := HXg0.out.1
      replace HOwAr0_0 : Hid (Own w8 s4_4 e4_4 wAr0_0 (strs lr0_0)) := HOwAr0_0.out.below hb8
      replace HOTx0A0_0 : Hid (Own w8 qTx0A0_0 w5.heap.size Tx0A0_0 (strs l0_0)) := HOTx0A0_0.out.below hb8
      replace HOgAr0_0 : Hid (Own w8 s7_3 e7_3 gAr0_0 (strs lr0_0)) := HOgAr0_0.out.below hb8
      clear hb8
      go_wp2_with fail
      go_region_held3 (fun w' => (∀ o, w'.cell? ⟨w5.heap.size, o, none⟩ = [.slice Tx0A0_0 n0_0 n0_0][o]?) ∧ (∀ o, w'.cell? ⟨w.heap.size, o, none⟩ = [.slice A0_0 n0_0 c0_0][o]?))
        (first | exact ⟨HXx0.out.2, HXaD.out.2⟩ | exact ⟨HPx0.out.2, HPaD.out.2⟩ | exact ⟨HQx0.out.2, HQaD.out.2⟩)
        (first
        | (go_at_call 27
           refine (toDisk_c A0_0 c0_0 n0_0 l0_0 _ _ _ (hrA0_0.below (by ((repeat (first | refine Below.alloc ?_ (by first | omega | (simp; done) | (simp; omega)) _ | refine Below.drew ?_)); exact HB8.out))) HNA0_0.out hmA0_0).mono ?_
           rintro e w9 ⟨T9A0_0, rfl, le9_0, hod0, hb9⟩
           have HPx0 : Hid (Box w9 (w5.heap.size) [.slice Tx0A0_0 n0_0 n0_0]) := Box.below (HXx0.out.drew) hb9
           have HPaD : Hid (Box w9 (w.heap.size) [.slice A0_0 n0_0 c0_0]) := Box.below (HXaD.out.drew) hb9
           have HPOwAr0_0 : Hid (Own w9 s4_4 e4_4 wAr0_0 (strs lr0_0)) := (HOwAr0_0.out.drew).below hb9
           have HPOTx0A0_0 : Hid (Own w9 qTx0A0_0 w5.heap.size Tx0A0_0 (strs l0_0)) := (HOTx0A0_0.out.drew).below hb9
           have HPOgAr0_0 : Hid (Own w9 s7_3 e7_3 gAr0_0 (strs lr0_0)) := (HOgAr0_0.out.drew).below hb9
           have hz9 : w8.heap.size ≤ w9.heap.size := hb9.size
           have HB9 : Hid (Below w.heap.size w w9) := below_then HB8.out.drew hb9 (by first | omega | (simp; omega))
           have HBB9 := Lib.hid hb9
           clear hb9)
        | (go_at_call 22
           refine (eqDisk_c  Tx0A0_0 n0_0 n0_0 l0_0 T9A0_0 n0_0 _ _ _ _  _ (HPOTx0A0_0.out.rd) hod0.rd HNA0_0.out (by unfold maxLen; omega)).mono ?_
           rintro e w10 ⟨rfl, hb10⟩
           have HQx0 : Hid (Box w10 (w5.heap.size) [.slice Tx0A0_0 n0_0 n0_0]) := Box.below HPx0.out hb10
           have HQaD : Hid (Box w10 (w.heap.size) [.slice A0_0 n0_0 c0_0]) := Box.below HPaD.out hb10
           have HQOwAr0_0 : Hid (Own w10 s4_4 e4_4 wAr0_0 (strs lr0_0)) := HPOwAr0_0.out.below hb10
           have HQOTx0A0_0 : Hid (Own w10 qTx0A0_0 w5.heap.size Tx0A0_0 (strs l0_0)) := HPOTx0A0_0.out.below hb10
           have HQOgAr0_0 : Hid (Own w10 s7_3 e7_3 gAr0_0 (strs lr0_0)) := HPOgAr0_0.out.below hb10
           have HQaW : Hid (Box w10 (w.heap.size + 1) [.int .i64 e1.file, .int .i64 e1.pos, .string e1.text]) := Box.below (Box.below2 HXaW.out.drew HBB9.out) hb10
           have HQw0 : Hid (Box w10 (s4_8) [.slice wAr0_0 nr0_0 wcr0_0]) := Box.below (Box.below2 HXw0.out.drew HBB9.out) hb10
           have HQg0 : Hid (Box w10 (s7_7) [.slice gAr0_0 nr0_0 gcr0_0]) := Box.below (Box.below2 HXg0.out.drew HBB9.out) hb10
           have hz10 : w9.heap.size ≤ w10.heap.size := hb10.size
           have HB10 : Hid (Below w.heap.size w w10) := below_then HB9.out hb10 (by first | omega | exact HB9.out.size)
           clear hb10))
      have hzz10 : w.heap.size ≤ w10.heap.size := by omega
      replace HOwAr0_0 := HQOwAr0_0
      clear HQOwAr0_0 HPOwAr0_0
      replace HOTx0A0_0 := HQOTx0A0_0
      clear HQOTx0A0_0 HPOTx0A0_0
      replace HOgAr0_0 := HQOgAr0_0
      clear HQOgAr0_0 HPOgAr0_0
      replace HXaD := HQaD
      clear HQaD HPaD hxaD hkaD
      have hxaD := HXaD.out.2
      have hkaD := HXaD.out.1
      replace HXaW := HQaW
      clear HQaW hxaW hkaW
      have hxaW := HXaW.out.2
      have hkaW := HXaW.out.1
      replace HXw0 := HQw0
      clear HQw0 hxw0 hkw0
      have hxw0 := HXw0.out.2
      have hkw0 := HXw0.out.1
      replace HXx0 := HQx0
      clear HQx0 HPx0 hxx0 hkx0
      have hxx0 := HXx0.out.2
      have hkx0 := HXx0.out.1
      replace HXg0 := HQg0
      clear HQg0 hxg0 hkg0
      have hxg0 := HXg0.out.2
      have hkg0 := HXg0.out.1
      go_wp2_with fail
      refine (markDisk_c  Tx0A0_0 n0_0 n0_0 qTx0A0_0 w5.heap.size (1) _ (strs l0_0) _ (by omega) (HOTx0A0_0.out) (by rw [strs_len]; exact HNA0_0.out) (by omega)  (by omega)).mono ?_
      rintro e w11 ⟨rfl, hp11_0, ho0⟩
      have hz11_0 : w10.heap.size ≤ w11.heap.size := by have := hp11_0.size; first | omega | (simp at this; omega)
      have hzz11 : w.heap.size ≤ w11.heap.size := by omega
      have HB11 : Hid (Below w.heap.size w w11) := (below_only (by ((repeat (first | refine Below.alloc ?_ (by first | omega | (simp; done) | (simp; omega)) _ | refine Below.drew ?_)); exact HB10.out)) hp11_0 (by omega) (by first | omega | (simp; omega)))
      replace HXaD : Hid (Box w11 (w.heap.size) [.slice A0_0 n0_0 c0_0]) := (Box.only HXaD.out hp11_0 (by first | omega | (simp; omega)))
      clear hxaD hkaD
      have hxaD := HXaD.out.2
      have hkaD := HXaD.out.1
      replace HXaW : Hid (Box w11 (w.heap.size + 1) [.int .i64 e1.file, .int .i64 e1.pos, .string e1.text]) := (Box.only HXaW.out hp11_0 (by first | omega | (simp; omega)))
      clear hxaW hkaW
      have hxaW := HXaW.out.2
      have hkaW := HXaW.out.1
      replace HXw0 : Hid (Box w11 (s4_8) [.slice wAr0_0 nr0_0 wcr0_0]) := (Box.only HXw0.out hp11_0 (by first | omega | (simp; omega)))
      clear hxw0 hkw0
      have hxw0 := HXw0.out.2
      have hkw0 := HXw0.out.1
      replace HXx0 : Hid (Box w11 (w5.heap.size) [.slice Tx0A0_0 n0_0 n0_0]) := (Box.only HXx0.out hp11_0 (by first | omega | (simp; omega)))
      clear hxx0 hkx0
      have hxx0 := HXx0.out.2
      have hkx0 := HXx0.out.1
      replace HXg0 : Hid (Box w11 (s7_7) [.slice gAr0_0 nr0_0 gcr0_0]) := (Box.only HXg0.out hp11_0 (by first | omega | (simp; omega)))
      clear hxg0 hkg0
      have hxg0 := HXg0.out.2
      have hkg0 := HXg0.out.1
      replace HOwAr0_0 : Hid (Own w11 s4_4 e4_4 wAr0_0 (strs lr0_0)) := (HOwAr0_0.out.only hp11_0 (by first | omega | (simp; omega)))
      replace HOgAr0_0 : Hid (Own w11 s7_3 e7_3 gAr0_0 (strs lr0_0)) := (HOgAr0_0.out.only hp11_0 (by first | omega | (simp; omega)))
      clear HOTx0A0_0
      clear hp11_0 ho0
      generalize hkk : ((1 + n0_0 : Nat) : Int) = kk11
      have hk0k11 : 0 ≤ kk11 := by omega
      have hkdk11 : decide (kk11 < 0) = false := by simp; omega
      have HKk11 := Lib.hid hkk
      clear hkk
      go_wp2_with fail
      refine (eqDisk_c  gAr0_0 gcr0_0 nr0_0 lr0_0 wAr0_0 wcr0_0 _ _ _ _  _ (HOgAr0_0.out.rd) (HOwAr0_0.out.rd) HRNAr0_0.out (by unfold maxLen; omega)).mono ?_
      rintro e w12 ⟨rfl, hb12⟩
      have hz12 : w11.heap.size ≤ w12.heap.size := by have := hb12.size; first | omega | (simp at this; omega)
      have hzz12 : w.heap.size ≤ w12.heap.size := by omega
      have HB12 : Hid (Below w.heap.size w w12) := below_then (by ((repeat (first | refine Below.alloc ?_ (by first | omega | (simp; done) | (simp; omega)) _ | refine Below.drew ?_)); exact HB11.out)) hb12 (by first | omega | (simp; done) | (simp; omega))
      replace HXaD : Hid (Box w12 (w.heap.size) [.slice A0_0 n0_0 c0_0]) := Box.below HXaD.out hb12
      clear hxaD hkaD
      have hxaD := HXaD.out.2
      have hkaD := HXaD.out.1
      replace HXaW : Hid (Box w12 (w.heap.size + 1) [.int .i64 e1.file, .int .i64 e1.pos, .string e1.text]) := Box.below HXaW.out hb12
      clear hxaW hkaW
      have hxaW := HXaW.out.2
      have hkaW := HXaW.out.1
      replace HXw0 : Hid (Box w12 (s4_8) [.slice wAr0_0 nr0_0 wcr0_0]) := Box.below HXw0.out hb12
      clear hxw0 hkw0
      have hxw0 := HXw0.out.2
      have hkw0 := HXw0.out.1
      replace HXx0 : Hid (Box w12 (w5.heap.size) [.slice Tx0A0_0 n0_0 n0_0]) := Box.below HXx0.out hb12
      clear hxx0 hkx0
      have hxx0 := HXx0.out.2
      have hkx0 := HXx0.out.1
      replace HXg0 : Hid (Box w12 (s7_7) [.slice gAr0_0 nr0_0 gcr0_0]) := Box.below HXg0.out hb12
      clear hxg0 hkg0
      have hxg0 := HXg0.out.2
      have hkg0 := HXg0.out.1
      replace HOwAr0_0 : Hid (Own w12 s4_4 e4_4 wAr0_0 (strs lr0_0)) := HOwAr0_0.out.below hb12
      replace HOgAr0_0 : Hid (Own w12 s7_3 e7_3 gAr0_0 (strs lr0_0)) := HOgAr0_0.out.below hb12
      clear hb12
      go_wp2_with fail
      refine (markDisk_c  gAr0_0 gcr0_0 nr0_0 s7_3 e7_3 (1) _ (strs lr0_0) _ (by omega) (HOgAr0_0.out) (by rw [strs_len]; exact HRNAr0_0.out) (by omega)  (by omega)).mono ?_
      rintro e w13 ⟨rfl, hp13_0, ho0⟩
      have hz13_0 : w12.heap.size ≤ w13.heap.size := by have := hp13_0.size; first | omega | (simp at this; omega)
      have hzz13 : w.heap.size ≤ w13.heap.size := by omega
      have HB13 : Hid (Below w.heap.size w w13) := (below_only (by ((repeat (first | refine Below.alloc ?_ (by first | omega | (simp; done) | (simp; omega)) _ | refine Below.drew ?_)); exact HB12.out)) hp13_0 (by omega) (by first | omega | (simp; omega)))
      replace HXaD : Hid (Box w13 (w.heap.size) [.slice A0_0 n0_0 c0_0]) := (Box.only HXaD.out hp13_0 (by first | omega | (simp; omega)))
      clear hxaD hkaD
      have hxaD := HXaD.out.2
      have hkaD := HXaD.out.1
      replace HXaW : Hid (Box w13 (w.heap.size + 1) [.int .i64 e1.file, .int .i64 e1.pos, .string e1.text]) := (Box.only HXaW.out hp13_0 (by first | omega | (simp; omega)))
      clear hxaW hkaW
      have hxaW := HXaW.out.2
      have hkaW := HXaW.out.1
      replace HXw0 : Hid (Box w13 (s4_8) [.slice wAr0_0 nr0_0 wcr0_0]) := (Box.only HXw0.out hp13_0 (by first | omega | (simp; omega)))
      clear hxw0 hkw0
      have hxw0 := HXw0.out.2
      have hkw0 := HXw0.out.1
      replace HXx0 : Hid (Box w13 (w5.heap.size) [.slice Tx0A0_0 n0_0 n0_0]) := (Box.only HXx0.out hp13_0 (by first | omega | (simp; omega)))
      clear hxx0 hkx0
      have hxx0 := HXx0.out.2
      have hkx0 := HXx0.out.1
      replace HXg0 : Hid (Box w13 (s7_7) [.slice gAr0_0 nr0_0 gcr0_0]) := (Box.only HXg0.out hp13_0 (by first | omega | (simp; omega)))
      clear hxg0 hkg0
      have hxg0 := HXg0.out.2
      have hkg0 := HXg0.out.1
      replace HOwAr0_0 : Hid (Own w13 s4_4 e4_4 wAr0_0 (strs lr0_0)) := (HOwAr0_0.out.only hp13_0 (by first | omega | (simp; omega)))
      replace HOgAr0_0 : Hid (Own w13 s7_3 e7_3 gAr0_0 (strs (marks (1) nr0_0))) := ho0
      clear hp13_0 ho0
      generalize hkk : ((1 + nr0_0 : Nat) : Int) = km13
      have hk0m13 : 0 ≤ km13 := by omega
      have hkdm13 : decide (km13 < 0) = false := by simp; omega
      have HKm13 := Lib.hid hkk
      clear hkk
      go_wp2_with fail
      refine (heldDisk_c  gAr0_0 gcr0_0 nr0_0 _ _ (1) _ _ (by omega) (HOgAr0_0.out.rd) (by omega)).mono ?_
      rintro e w14 ⟨rfl, hb14⟩
      have hz14 : w13.heap.size ≤ w14.heap.size := by have := hb14.size; first | omega | (simp at this; omega)
      have hzz14 : w.heap.size ≤ w14.heap.size := by omega
      have HB14 : Hid (Below w.heap.size w w14) := below_then (by ((repeat (first | refine Below.alloc ?_ (by first | omega | (simp; done) | (simp; omega)) _ | refine Below.drew ?_)); exact HB13.out)) hb14 (by first | omega | (simp; done) | (simp; omega))
      replace HXaD : Hid (Box w14 (w.heap.size) [.slice A0_0 n0_0 c0_0]) := Box.below HXaD.out hb14
      clear hxaD hkaD
      have hxaD := HXaD.out.2
      have hkaD := HXaD.out.1
      replace HXaW : Hid (Box w14 (w.heap.size + 1) [.int .i64 e1.file, .int .i64 e1.pos, .string e1.text]) := Box.below HXaW.out hb14
      clear hxaW hkaW
      have hxaW := HXaW.out.2
      have hkaW := HXaW.out.1
      replace HXw0 : Hid (Box w14 (s4_8) [.slice wAr0_0 nr0_0 wcr0_0]) := Box.below HXw0.out hb14
      clear hxw0 hkw0
      have hxw0 := HXw0.out.2
      have hkw0 := HXw0.out.1
      replace HXx0 : Hid (Box w14 (w5.heap.size) [.slice Tx0A0_0 n0_0 n0_0]) := Box.below HXx0.out hb14
      clear hxx0 hkx0
      have hxx0 := HXx0.out.2
      have hkx0 := HXx0.out.1
      replace HXg0 : Hid (Box w14 (s7_7) [.slice gAr0_0 nr0_0 gcr0_0]) := Box.below HXg0.out hb14
      clear hxg0 hkg0
      have hxg0 := HXg0.out.2
      have hkg0 := HXg0.out.1
      replace HOwAr0_0 : Hid (Own w14 s4_4 e4_4 wAr0_0 (strs lr0_0)) := HOwAr0_0.out.below hb14
      replace HOgAr0_0 : Hid (Own w14 s7_3 e7_3 gAr0_0 (strs (marks (1) nr0_0))) := HOgAr0_0.out.below hb14
      clear hb14
      generalize hkk : ((1 + nr0_0 : Nat) : Int) = kq14
      have hk0q14 : 0 ≤ kq14 := by omega
      have hkdq14 : decide (kq14 < 0) = false := by simp; omega
      have HKq14 := Lib.hid hkk
      clear hkk
      obtain rfl : kq14 = km13 := HKq14.out.symm.trans HKm13.out
      go_wp2_with fail
      refine wp_named (fun w15 hw => ?_)
      have hb15 := below_eq hw
      clear hw
      have hz15 : w14.heap.size ≤ w15.heap.size := by have := hb15.size; first | omega | (simp at this; omega)
      have hzz15 : w.heap.size ≤ w15.heap.size := by omega
      have HB15 : Hid (Below w.heap.size w w15) := below_then (by ((repeat (first | refine Below.alloc ?_ (by first | omega | (simp; done) | (simp; omega)) _ | refine Below.drew ?_)); exact HB14.out)) hb15 (by first | omega | (simp; done) | (simp; omega))
      replace HXaD : Hid (Box w15 (w.heap.size) [.slice A0_0 n0_0 c0_0]) := Box.below HXaD.out hb15
      clear hxaD hkaD
      have hxaD := HXaD.out.2
      have hkaD := HXaD.out.1
      replace HXaW : Hid (Box w15 (w.heap.size + 1) [.int .i64 e1.file, .int .i64 e1.pos, .string e1.text]) := Box.below HXaW.out hb15
      clear hxaW hkaW
      have hxaW := HXaW.out.2
      have hkaW := HXaW.out.1
      replace HXw0 : Hid (Box w15 (s4_8) [.slice wAr0_0 nr0_0 wcr0_0]) := Box.below HXw0.out hb15
      clear hxw0 hkw0
      have hxw0 := HXw0.out.2
      have hkw0 := HXw0.out.1
      replace HXx0 : Hid (Box w15 (w5.heap.size) [.slice Tx0A0_0 n0_0 n0_0]) := Box.below HXx0.out hb15
      clear hxx0 hkx0
      have hxx0 := HXx0.out.2
      have hkx0 := HXx0.out.1
      replace HXg0 : Hid (Box w15 (s7_7) [.slice gAr0_0 nr0_0 gcr0_0]) := Box.below HXg0.out hb15
      clear hxg0 hkg0
      have hxg0 := HXg0.out.2
      have hkg0 := HXg0.out.1
      replace HOwAr0_0 : Hid (Own w15 s4_4 e4_4 wAr0_0 (strs lr0_0)) := HOwAr0_0.out.below hb15
      replace HOgAr0_0 : Hid (Own w15 s7_3 e7_3 gAr0_0 (strs (marks (1) nr0_0))) := HOgAr0_0.out.below hb15
      clear hb15
      obtain ⟨F, HF⟩ : ∃ F : Facts, Hid (F = fun i x t ds u => match i with
        | 0 => x.v = .agg #[.slice A0_0 n0_0 c0_0]
        | 1 => ∃ (ThA0_0 : Option Addr), x.v = .agg #[.slice ThA0_0 n0_0 n0_0] ∧ Rd u x.s x.e ThA0_0 (strs l0_0)
        | 2 => x.v = .agg #[.int .i64 e1.file, .int .i64 e1.pos, .string e1.text]
        | 3 => x.v = .agg #[.int .i64 e1.file, .int .i64 e1.pos, .string e1.text]
        | 4 => ∃ (hAr0_0 : Option Addr) (hcr0_0 : Nat), x.v = .tuple #[.agg #[.slice hAr0_0 nr0_0 hcr0_0], .bool br1] ∧ Own u x.s x.e hAr0_0 (strs lr0_0)
        | 5 => (match ds with | [y] => ∃ (hAr0_0 : Option Addr) (hcr0_0 : Nat), y.v = .tuple #[.agg #[.slice hAr0_0 nr0_0 hcr0_0], .bool br1] ∧ x.v = .tuple #[.agg #[.slice hAr0_0 nr0_0 hcr0_0], .bool br1] | _ => False)
        | 6 => (match ds with | [y] => ∃ (hAr0_0 : Option Addr) (hcr0_0 : Nat), y.v = .tuple #[.agg #[.slice hAr0_0 nr0_0 hcr0_0], .bool br1] ∧ x.v = .agg #[.slice hAr0_0 nr0_0 hcr0_0] | _ => False)
        | 7 => (match ds with | [y] => ∃ (hAr0_0 : Option Addr) (hcr0_0 : Nat), y.v = .tuple #[.agg #[.slice hAr0_0 nr0_0 hcr0_0], .bool br1] ∧ x.v = .bool br1 | _ => False)
        | 8 => x.v = .pointer (some ⟨x.s, 0, none⟩) ∧ x.s < x.e ∧ NewBox u x.s [.slice none 0 0]
        | 9 => (match ds with | [y] => t.v = .pointer (some ⟨t.s, 0, none⟩) ∧ t.s < t.e ∧ ∃ (hAr0_0 : Option Addr) (hcr0_0 : Nat), y.v = .tuple #[.agg #[.slice hAr0_0 nr0_0 hcr0_0], .bool br1] ∧ Box u t.s [.slice hAr0_0 nr0_0 hcr0_0] | _ => False)
        | 10 => (match ds with | [y] => ∃ (hAr0_0 : Option Addr) (hcr0_0 : Nat), y.v = .tuple #[.agg #[.slice hAr0_0 nr0_0 hcr0_0], .bool br1] ∧ x.v = .bool br1 | _ => False)
        | _ => False) := ⟨_, rfl⟩
      refine wp_region_facts [[], [], [], [], [], [4], [4], [4], [], [4], [4]] [none, none, none, none, none, none, none, none, none, some 8, none] [some 85, some 86, some 87, some 88, some 89, some 84, some 90, some 91, some 14, none, some 15] F (by kernel_rfl) (by kernel_rfl) (by kernel_rfl) ?_ ⟨?_, ?_, ?_, ?_, ?_, ?_, ?_, ?_, ?_, ?_, ?_, trivial⟩ ?_
      · rw [HF.out]; intro i x t ds u u' hi hf hs hW hx ht hbk
        have kx : ∀ b, x.s ≤ b → b < x.e → u'.heap[b]? = u.heap[b]? := fun b h1 h2 => hbk b (.inr (.inl ⟨h1, h2⟩))
        have kt : ∀ b, t.s ≤ b → b < t.e → u'.heap[b]? = u.heap[b]? := fun b h1 h2 => hbk b (.inr (.inr ⟨h1, h2⟩))
        clear hbk
        match i with
        | 0 => exact hf
        | 1 => obtain ⟨ThA0_0, hv, p0⟩ := hf; exact ⟨ThA0_0, hv, p0.keep hs kx⟩
        | 2 => exact hf
        | 3 => exact hf
        | 4 => obtain ⟨hAr0_0, hcr0_0, hv, p0⟩ := hf; exact ⟨hAr0_0, hcr0_0, hv, p0.keep hs kx⟩
        | 5 => exact hf
        | 6 => exact hf
        | 7 => exact hf
        | 8 => exact ⟨hf.1, hf.2.1, hf.2.2.keep hs (kx _ (Nat.le_refl _) hf.2.1)⟩
        | 9 => match ds, hf with | [y], ⟨h1, h2, hAr0_0, hcr0_0, hv, hb⟩ => exact ⟨h1, h2, hAr0_0, hcr0_0, hv, hb.keep hs (kt _ (Nat.le_refl _) h2)⟩
        | 10 => exact hf
      · intro g ρ u hc hf1 hg1 hd h0 hb he ha hF
        replace hb : Below w15.heap.size w15 u := drew_below hb
        have hbz : w15.heap.size ≤ u.heap.size := hb.size
        have r : ρ (.tmp 2) = .pointer (some ⟨w.heap.size, 0, none⟩) := (h0 2 (by decide +kernel)).trans rfl
        have q := (HXaD.out.below hb).2
        have qk := (HXaD.out.below hb).1
        clear hd h0 he ha hF
        go_simp
        rw [HF.out]
        exact ⟨Only.refl _ _ _, rfl⟩
      · intro g ρ u hc hf1 hg1 hd h0 hb he ha hF
        replace hb : Below w15.heap.size w15 u := drew_below hb
        have hbz : w15.heap.size ≤ u.heap.size := hb.size
        have f0 : (g 0).v = .agg #[.slice A0_0 n0_0 c0_0] := by have h := hF 0 (by decide +kernel) (by decide +kernel); rw [HF.out] at h; exact h
        have hv0 := f0
        have rr0 : ρ (.tmp 85) = .agg #[.slice A0_0 n0_0 c0_0] := (hd 0 (by decide +kernel) 85 (by kernel_rfl)).trans hv0
        clear hv0 f0
        clear hd h0 he ha hF
        go_simp
        refine (toDisk_c A0_0 c0_0 n0_0 l0_0 _ _ _ (hrA0_0.below (below_then HB15.out hb HB15.out.size)) HNA0_0.out hmA0_0).mono ?_
        rintro e u1 ⟨ThA0_0, rfl, le0, ho0, hb1⟩
        rw [HF.out]
        exact ⟨_, rfl, Only.of_below hb1, ThA0_0, rfl, ho0.rd.mono (by first | omega | (simp; done) | (simp; omega)) (by first | omega | (simp; done) | (simp; omega)) (Nat.le_refl _)⟩
      · intro g ρ u hc hf1 hg1 hd h0 hb he ha hF
        replace hb : Below w15.heap.size w15 u := drew_below hb
        have hbz : w15.heap.size ≤ u.heap.size := hb.size
        have r : ρ (.tmp 3) = .pointer (some ⟨w.heap.size + 1, 0, none⟩) := (h0 3 (by decide +kernel)).trans rfl
        have q := (HXaW.out.below hb).2
        have qk := (HXaW.out.below hb).1
        clear hd h0 he ha hF
        go_simp
        rw [HF.out]
        exact ⟨Only.refl _ _ _, rfl⟩
      · intro g ρ u hc hf1 hg1 hd h0 hb he ha hF
        replace hb : Below w15.heap.size w15 u := drew_below hb
        have hbz : w15.heap.size ≤ u.heap.size := hb.size
        have f2 : (g 2).v = .agg #[.int .i64 e1.file, .int .i64 e1.pos, .string e1.text] := by have h := hF 2 (by decide +kernel) (by decide +kernel); rw [HF.out] at h; exact h
        have hv2 := f2
        have rr2 : ρ (.tmp 87) = .agg #[.int .i64 e1.file, .int .i64 e1.pos, .string e1.text] := (hd 2 (by decide +kernel) 87 (by kernel_rfl)).trans hv2
        clear hv2 f2
        clear hd h0 he ha hF
        go_simp
        refine (toWrite_c e1 _).mono ?_
        rintro e u1 ⟨rfl, hb1⟩
        rw [HF.out]
        exact ⟨_, rfl, Only.of_below hb1, rfl⟩
      · intro g ρ u hc hf1 hg1 hd h0 hb he ha hF
        replace hb : Below w15.heap.size w15 u := drew_below hb
        have hbz : w15.heap.size ≤ u.heap.size := hb.size
        have f1 : ∃ (ThA0_0 : Option Addr), (g 1).v = .agg #[.slice ThA0_0 n0_0 n0_0] ∧ Rd u (g 1).s (g 1).e ThA0_0 (strs l0_0) := by have h := hF 1 (by decide +kernel) (by decide +kernel); rw [HF.out] at h; exact h
        obtain ⟨ThA0_0, hv1, rd1_0⟩ := f1
        have rr1 : ρ (.tmp 86) = .agg #[.slice ThA0_0 n0_0 n0_0] := (hd 1 (by decide +kernel) 86 (by kernel_rfl)).trans hv1
        clear hv1
        have f3 : (g 3).v = .agg #[.int .i64 e1.file, .int .i64 e1.pos, .string e1.text] := by have h := hF 3 (by decide +kernel) (by decide +kernel); rw [HF.out] at h; exact h
        have hv3 := f3
        have rr3 : ρ (.tmp 88) = .agg #[.int .i64 e1.file, .int .i64 e1.pos, .string e1.text] := (hd 3 (by decide +kernel) 88 (by kernel_rfl)).trans hv3
        clear hv3 f3
        clear hd h0 he ha hF
        go_simp
        refine (HIM hbk _ _ _ _ _ rd1_0 rfl).mono ?_
        rintro e u1 ⟨hAr0_0, hcr0_0, rfl, ho, hb1⟩
        rw [HF.out]
        exact ⟨_, rfl, Only.of_below hb1, hAr0_0, hcr0_0, rfl, ho⟩
      · intro g ρ u hc hf1 hg1 hd h0 hb he ha hF
        replace hb : Below w15.heap.size w15 u := drew_below hb
        have hbz : w15.heap.size ≤ u.heap.size := hb.size
        have f4 : ∃ (hAr0_0 : Option Addr) (hcr0_0 : Nat), (g 4).v = .tuple #[.agg #[.slice hAr0_0 nr0_0 hcr0_0], .bool br1] ∧ Own u (g 4).s (g 4).e hAr0_0 (strs lr0_0) := by have h := hF 4 (by decide +kernel) (by decide +kernel); rw [HF.out] at h; exact h
        obtain ⟨hAr0_0, hcr0_0, hv, -⟩ := f4
        have hrt := hv
        have rr : ρ (.tmp 89) = .tuple #[.agg #[.slice hAr0_0 nr0_0 hcr0_0], .bool br1] := (hd 4 (by decide +kernel) 89 (by kernel_rfl)).trans hv
        have HRT := Lib.hid hrt
        clear hrt
        clear hv hd h0 he ha hF
        go_simp
        rw [HF.out]
        exact ⟨Only.refl _ _ _, hAr0_0, hcr0_0, HRT.out, rfl⟩
      · intro g ρ u hc hf1 hg1 hd h0 hb he ha hF
        replace hb : Below w15.heap.size w15 u := drew_below hb
        have hbz : w15.heap.size ≤ u.heap.size := hb.size
        have f5 : ∃ (hAr0_0 : Option Addr) (hcr0_0 : Nat), (g 4).v = .tuple #[.agg #[.slice hAr0_0 nr0_0 hcr0_0], .bool br1] ∧ (g 5).v = .tuple #[.agg #[.slice hAr0_0 nr0_0 hcr0_0], .bool br1] := by have h := hF 5 (by decide +kernel) (by decide +kernel); rw [HF.out] at h; exact h
        obtain ⟨hAr0_0, hcr0_0, hrt, hv⟩ := f5
        have rr : ρ (.tmp 84) = .tuple #[.agg #[.slice hAr0_0 nr0_0 hcr0_0], .bool br1] := (hd 5 (by decide +kernel) 84 (by kernel_rfl)).trans hv
        have HRT := Lib.hid hrt
        clear hrt
        clear hv hd h0 he ha hF
        go_simp
        rw [HF.out]
        exact ⟨Only.refl _ _ _, hAr0_0, hcr0_0, HRT.out, rfl⟩
      · intro g ρ u hc hf1 hg1 hd h0 hb he ha hF
        replace hb : Below w15.heap.size w15 u := drew_below hb
        have hbz : w15.heap.size ≤ u.heap.size := hb.size
        have f5 : ∃ (hAr0_0 : Option Addr) (hcr0_0 : Nat), (g 4).v = .tuple #[.agg #[.slice hAr0_0 nr0_0 hcr0_0], .bool br1] ∧ (g 5).v = .tuple #[.agg #[.slice hAr0_0 nr0_0 hcr0_0], .bool br1] := by have h := hF 5 (by decide +kernel) (by decide +kernel); rw [HF.out] at h; exact h
        obtain ⟨hAr0_0, hcr0_0, hrt, hv⟩ := f5
        have rr : ρ (.tmp 84) = .tuple #[.agg #[.slice hAr0_0 nr0_0 hcr0_0], .bool br1] := (hd 5 (by decide +kernel) 84 (by kernel_rfl)).trans hv
        have HRT := Lib.hid hrt
        clear hrt
        clear hv hd h0 he ha hF
        go_simp
        rw [HF.out]
        exact ⟨Only.refl _ _ _, hAr0_0, hcr0_0, HRT.out, rfl⟩
      · intro g ρ u hc hf1 hg1 hd h0 hb he ha hF
        replace hb : Below w15.heap.size w15 u := drew_below hb
        have hbz : w15.heap.size ≤ u.heap.size := hb.size
        clear hd h0 he ha hF
        go_simp
        rw [HF.out]
        exact ⟨Only.of_below ((Below.refl _ _).alloc (Nat.le_refl _) _), rfl, by simp, NewBox.new _ _ _⟩
      · intro g ρ u hc hf1 hg1 hd h0 hb he ha hF
        replace hb : Below w15.heap.size w15 u := drew_below hb
        have hbz : w15.heap.size ≤ u.heap.size := hb.size
        have f8 : (g 8).v = .pointer (some ⟨(g 8).s, 0, none⟩) ∧ (g 8).s < (g 8).e ∧ NewBox u (g 8).s [.slice none 0 0] := by have h := hF 8 (by decide +kernel) (by decide +kernel); rw [HF.out] at h; exact h
        have f6 : ∃ (hAr0_0 : Option Addr) (hcr0_0 : Nat), (g 4).v = .tuple #[.agg #[.slice hAr0_0 nr0_0 hcr0_0], .bool br1] ∧ (g 6).v = .agg #[.slice hAr0_0 nr0_0 hcr0_0] := by have h := hF 6 (by decide +kernel) (by decide +kernel); rw [HF.out] at h; exact h
        obtain ⟨hp, hpl, hpz, hpc, hpf⟩ := f8
        obtain ⟨hAr0_0, hcr0_0, hrt, hv⟩ := f6
        have HRT := Lib.hid hrt
        clear hrt
        have r1 : ρ (.tmp 14) = .pointer (some ⟨(g 8).s, 0, none⟩) := (hd 8 (by decide +kernel) 14 (by kernel_rfl)).trans hp
        have r2 : ρ (.tmp 90) = .agg #[.slice hAr0_0 nr0_0 hcr0_0] := (hd 6 (by decide +kernel) 90 (by kernel_rfl)).trans hv
        have HP := Lib.hid hp
        have he8 := he 8 (by decide +kernel)
        obtain ⟨_, _, _⟩ := he8
        clear hp hv hd h0 he ha hF
        go_simp
        rw [HF.out]
        refine ⟨?_, HP.out, hpl, hAr0_0, hcr0_0, HRT.out, ?_⟩
        · show Only (g 8).s (g 8).e u _; refine Only.setCell ?_ (by exact Nat.le_refl _) (by exact hpl) _; exact Only.refl _ _ _
        · show Box _ (g 8).s _
          exact ⟨by simpa [World.setCell] using hpz, fun o => by rcases o with _ | o <;> go_simp⟩
      · intro g ρ u hc hf1 hg1 hd h0 hb he ha hF
        replace hb : Below w15.heap.size w15 u := drew_below hb
        have hbz : w15.heap.size ≤ u.heap.size := hb.size
        have f7 : ∃ (hAr0_0 : Option Addr) (hcr0_0 : Nat), (g 4).v = .tuple #[.agg #[.slice hAr0_0 nr0_0 hcr0_0], .bool br1] ∧ (g 7).v = .bool br1 := by have h := hF 7 (by decide +kernel) (by decide +kernel); rw [HF.out] at h; exact h
        obtain ⟨hAr0_0, hcr0_0, hrt, hv⟩ := f7
        have rr : ρ (.tmp 91) = .bool br1 := (hd 7 (by decide +kernel) 91 (by kernel_rfl)).trans hv
        have HRT := Lib.hid hrt
        clear hrt
        clear hv hd h0 he ha hF
        go_simp
        rw [HF.out]
        exact ⟨Only.refl _ _ _, hAr0_0, hcr0_0, HRT.out, rfl⟩
      intro g w16 hB hE hA hF
      replace hB : Below w15.heap.size w15 w16 := drew_below hB
      have f0 : (g 0).v = .agg #[.slice A0_0 n0_0 c0_0] := by have h := hF 0 (by decide +kernel) (by decide +kernel); rw [HF.out] at h; exact h
      have f1 : ∃ (ThA0_0 : Option Addr), (g 1).v = .agg #[.slice ThA0_0 n0_0 n0_0] ∧ Rd w16 (g 1).s (g 1).e ThA0_0 (strs l0_0) := by have h := hF 1 (by decide +kernel) (by decide +kernel); rw [HF.out] at h; exact h
      have f2 : (g 2).v = .agg #[.int .i64 e1.file, .int .i64 e1.pos, .string e1.text] := by have h := hF 2 (by decide +kernel) (by decide +kernel); rw [HF.out] at h; exact h
      have f3 : (g 3).v = .agg #[.int .i64 e1.file, .int .i64 e1.pos, .string e1.text] := by have h := hF 3 (by decide +kernel) (by decide +kernel); rw [HF.out] at h; exact h
      have f4 : ∃ (hAr0_0 : Option Addr) (hcr0_0 : Nat), (g 4).v = .tuple #[.agg #[.slice hAr0_0 nr0_0 hcr0_0], .bool br1] ∧ Own w16 (g 4).s (g 4).e hAr0_0 (strs lr0_0) := by have h := hF 4 (by decide +kernel) (by decide +kernel); rw [HF.out] at h; exact h
      have f5 : ∃ (hAr0_0 : Option Addr) (hcr0_0 : Nat), (g 4).v = .tuple #[.agg #[.slice hAr0_0 nr0_0 hcr0_0], .bool br1] ∧ (g 5).v = .tuple #[.agg #[.slice hAr0_0 nr0_0 hcr0_0], .bool br1] := by have h := hF 5 (by decide +kernel) (by decide +kernel); rw [HF.out] at h; exact h
      have f6 : ∃ (hAr0_0 : Option Addr) (hcr0_0 : Nat), (g 4).v = .tuple #[.agg #[.slice hAr0_0 nr0_0 hcr0_0], .bool br1] ∧ (g 6).v = .agg #[.slice hAr0_0 nr0_0 hcr0_0] := by have h := hF 6 (by decide +kernel) (by decide +kernel); rw [HF.out] at h; exact h
      have f7 : ∃ (hAr0_0 : Option Addr) (hcr0_0 : Nat), (g 4).v = .tuple #[.agg #[.slice hAr0_0 nr0_0 hcr0_0], .bool br1] ∧ (g 7).v = .bool br1 := by have h := hF 7 (by decide +kernel) (by decide +kernel); rw [HF.out] at h; exact h
      have f9 : (g 8).v = .pointer (some ⟨(g 8).s, 0, none⟩) ∧ (g 8).s < (g 8).e ∧ ∃ (hAr0_0 : Option Addr) (hcr0_0 : Nat), (g 4).v = .tuple #[.agg #[.slice hAr0_0 nr0_0 hcr0_0], .bool br1] ∧ Box w16 (g 8).s [.slice hAr0_0 nr0_0 hcr0_0] := by have h := hF 9 (by decide +kernel) (by decide +kernel); rw [HF.out] at h; exact h
      have f10 : ∃ (hAr0_0 : Option Addr) (hcr0_0 : Nat), (g 4).v = .tuple #[.agg #[.slice hAr0_0 nr0_0 hcr0_0], .bool br1] ∧ (g 10).v = .bool br1 := by have h := hF 10 (by decide +kernel) (by decide +kernel); rw [HF.out] at h; exact h
      obtain ⟨hAr0_0, hcr0_0, hv4, ho0⟩ := f4
      have hv0 := f0
      obtain ⟨x1_0, hv1, -⟩ := f1
      have hv2 := f2
      have hv3 := f3
      obtain ⟨hAr0_0_5, hcr0_0_5, hu, hv5⟩ := f5
      replace hu := hv4.symm.trans hu
      simp at hu
      obtain ⟨rfl, rfl⟩ := hu
      obtain ⟨hAr0_0_6, hcr0_0_6, hu, hv6⟩ := f6
      replace hu := hv4.symm.trans hu
      simp at hu
      obtain ⟨rfl, rfl⟩ := hu
      obtain ⟨hAr0_0_7, hcr0_0_7, hu, hv7⟩ := f7
      replace hu := hv4.symm.trans hu
      simp at hu
      obtain ⟨rfl, rfl⟩ := hu
      obtain ⟨hv8, hl8, f9⟩ := f9
      obtain ⟨hAr0_0_9, hcr0_0_9, hu, hx9⟩ := f9
      replace hu := hv4.symm.trans hu
      simp at hu
      obtain ⟨rfl, rfl⟩ := hu
      obtain ⟨hAr0_0_10, hcr0_0_10, hu, hv10⟩ := f10
      replace hu := hv4.symm.trans hu
      simp at hu
      obtain ⟨rfl, rfl⟩ := hu
      obtain ⟨hs4, hse4, he4⟩ := hE 4 (by decide +kernel)
      obtain ⟨hs8, hse8, he8⟩ := hE 8 (by decide +kernel)
      have hd4_8 := hA 4 (by decide +kernel) 8 (by decide +kernel) (by decide)
      change w15.heap.size ≤ _ at hs4 hs8
      clear hE hA hF
      simp only [putDs, Nat.reduceAdd, hv0, hv1, hv2, hv3, hv4, hv5, hv6, hv7, hv8, hv10]
      clear hv0 hv1 hv2 hv3 hv4 hv5 hv6 hv7 hv8 hv10
      generalize (g 4).s = s16_4 at *
      generalize (g 4).e = e16_4 at *
      generalize (g 8).s = s16_8 at *
      generalize (g 8).e = e16_8 at *
      have HSh0 := Lib.hid hx9
      clear hx9
      clear HF
      have hb16 := hB
      have hz16 : w15.heap.size ≤ w16.heap.size := by have := hb16.size; first | omega | (simp at this; omega)
      have hzz16 : w.heap.size ≤ w16.heap.size := by omega
      have HB16 : Hid (Below w.heap.size w w16) := below_then (by ((repeat (first | refine Below.alloc ?_ (by first | omega | (simp; done) | (simp; omega)) _ | refine Below.drew ?_)); exact HB15.out)) hb16 (by first | omega | (simp; done) | (simp; omega))
      replace HXaD : Hid (Box w16 (w.heap.size) [.slice A0_0 n0_0 c0_0]) := Box.below HXaD.out hb16
      clear hxaD hkaD
      have hxaD := HXaD.out.2
      have hkaD := HXaD.out.1
      replace HXaW : Hid (Box w16 (w.heap.size + 1) [.int .i64 e1.file, .int .i64 e1.pos, .string e1.text]) := Box.below HXaW.out hb16
      clear hxaW hkaW
      have hxaW := HXaW.out.2
      have hkaW := HXaW.out.1
      replace HXw0 : Hid (Box w16 (s4_8) [.slice wAr0_0 nr0_0 wcr0_0]) := Box.below HXw0.out hb16
      clear hxw0 hkw0
      have hxw0 := HXw0.out.2
      have hkw0 := HXw0.out.1
      replace HXx0 : Hid (Box w16 (w5.heap.size) [.slice Tx0A0_0 n0_0 n0_0]) := Box.below HXx0.out hb16
      clear hxx0 hkx0
      have hxx0 := HXx0.out.2
      have hkx0 := HXx0.out.1
      replace HXg0 : Hid (Box w16 (s7_7) [.slice gAr0_0 nr0_0 gcr0_0]) := Box.below HXg0.out hb16
      clear hxg0 hkg0
      have hxg0 := HXg0.out.2
      have hkg0 := HXg0.out.1
      replace HOwAr0_0 : Hid (Own w16 s4_4 e4_4 wAr0_0 (strs lr0_0)) := HOwAr0_0.out.below hb16
      replace HOgAr0_0 : Hid (Own w16 s7_3 e7_3 gAr0_0 (strs (marks (1) nr0_0))) := HOgAr0_0.out.below hb16
      clear hB hb16
      have HOhAr0_0 := Lib.hid ho0
      clear ho0
      have HXh0 : Hid (Box w16 (s16_8) [.slice hAr0_0 nr0_0 hcr0_0]) := HSh0
      clear HSh0
      have hxh0 := HXh0.out.2
      have hkh0 := HXh0.out.1
      go_wp2_with fail
      refine (eqDisk_c  hAr0_0 hcr0_0 nr0_0 lr0_0 wAr0_0 wcr0_0 _ _ _ _  _ (HOhAr0_0.out.rd) (HOwAr0_0.out.rd) HRNAr0_0.out (by unfold maxLen; omega)).mono ?_
      rintro e w17 ⟨rfl, hb17⟩
      have hz17 : w16.heap.size ≤ w17.heap.size := by have := hb17.size; first | omega | (simp at this; omega)
      have hzz17 : w.heap.size ≤ w17.heap.size := by omega
      have HB17 : Hid (Below w.heap.size w w17) := below_then (by ((repeat (first | refine Below.alloc ?_ (by first | omega | (simp; done) | (simp; omega)) _ | refine Below.drew ?_)); exact HB16.out)) hb17 (by first | omega | (simp; done) | (simp; omega))
      replace HXaD : Hid (Box w17 (w.heap.size) [.slice A0_0 n0_0 c0_0]) := Box.below HXaD.out hb17
      clear hxaD hkaD
      have hxaD := HXaD.out.2
      have hkaD := HXaD.out.1
      replace HXaW : Hid (Box w17 (w.heap.size + 1) [.int .i64 e1.file, .int .i64 e1.pos, .string e1.text]) := Box.below HXaW.out hb17
      clear hxaW hkaW
      have hxaW := HXaW.out.2
      have hkaW := HXaW.out.1
      replace HXw0 : Hid (Box w17 (s4_8) [.slice wAr0_0 nr0_0 wcr0_0]) := Box.below HXw0.out hb17
      clear hxw0 hkw0
      have hxw0 := HXw0.out.2
      have hkw0 := HXw0.out.1
      replace HXx0 : Hid (Box w17 (w5.heap.size) [.slice Tx0A0_0 n0_0 n0_0]) := Box.below HXx0.out hb17
      clear hxx0 hkx0
      have hxx0 := HXx0.out.2
      have hkx0 := HXx0.out.1
      replace HXg0 : Hid (Box w17 (s7_7) [.slice gAr0_0 nr0_0 gcr0_0]) := Box.below HXg0.out hb17
      clear hxg0 hkg0
      have hxg0 := HXg0.out.2
      have hkg0 := HXg0.out.1
      replace HXh0 : Hid (Box w17 (s16_8) [.slice hAr0_0 nr0_0 hcr0_0]) := Box.below HXh0.out hb17
      clear hxh0 hkh0
      have hxh0 := HXh0.out.2
      have hkh0 := HXh0.out.1
      replace HOwAr0_0 : Hid (Own w17 s4_4 e4_4 wAr0_0 (strs lr0_0)) := HOwAr0_0.out.below hb17
      replace HOgAr0_0 : Hid (Own w17 s7_3 e7_3 gAr0_0 (strs (marks (1) nr0_0))) := HOgAr0_0.out.below hb17
      replace HOhAr0_0 : Hid (Own w17 s16_4 e16_4 hAr0_0 (strs lr0_0)) := HOhAr0_0.out.below hb17
      clear hb17
      go_wp2_with fail
      refine (heldDisk_c  gAr0_0 gcr0_0 nr0_0 _ _ (1) _ _ (by omega) (HOgAr0_0.out.rd) (by omega)).mono ?_
      rintro e w18 ⟨rfl, hb18⟩
      have hz18 : w17.heap.size ≤ w18.heap.size := by have := hb18.size; first | omega | (simp at this; omega)
      have hzz18 : w.heap.size ≤ w18.heap.size := by omega
      have HB18 : Hid (Below w.heap.size w w18) := below_then (by ((repeat (first | refine Below.alloc ?_ (by first | omega | (simp; done) | (simp; omega)) _ | refine Below.drew ?_)); exact HB17.out)) hb18 (by first | omega | (simp; done) | (simp; omega))
      replace HXaD : Hid (Box w18 (w.heap.size) [.slice A0_0 n0_0 c0_0]) := Box.below HXaD.out hb18
      clear hxaD hkaD
      have hxaD := HXaD.out.2
      have hkaD := HXaD.out.1
      replace HXaW : Hid (Box w18 (w.heap.size + 1) [.int .i64 e1.file, .int .i64 e1.pos, .string e1.text]) := Box.below HXaW.out hb18
      clear hxaW hkaW
      have hxaW := HXaW.out.2
      have hkaW := HXaW.out.1
      replace HXw0 : Hid (Box w18 (s4_8) [.slice wAr0_0 nr0_0 wcr0_0]) := Box.below HXw0.out hb18
      clear hxw0 hkw0
      have hxw0 := HXw0.out.2
      have hkw0 := HXw0.out.1
      replace HXx0 : Hid (Box w18 (w5.heap.size) [.slice Tx0A0_0 n0_0 n0_0]) := Box.below HXx0.out hb18
      clear hxx0 hkx0
      have hxx0 := HXx0.out.2
      have hkx0 := HXx0.out.1
      replace HXg0 : Hid (Box w18 (s7_7) [.slice gAr0_0 nr0_0 gcr0_0]) := Box.below HXg0.out hb18
      clear hxg0 hkg0
      have hxg0 := HXg0.out.2
      have hkg0 := HXg0.out.1
      replace HXh0 : Hid (Box w18 (s16_8) [.slice hAr0_0 nr0_0 hcr0_0]) := Box.below HXh0.out hb18
      clear hxh0 hkh0
      have hxh0 := HXh0.out.2
      have hkh0 := HXh0.out.1
      replace HOwAr0_0 : Hid (Own w18 s4_4 e4_4 wAr0_0 (strs lr0_0)) := HOwAr0_0.out.below hb18
      replace HOgAr0_0 : Hid (Own w18 s7_3 e7_3 gAr0_0 (strs (marks (1) nr0_0))) := HOgAr0_0.out.below hb18
      replace HOhAr0_0 : Hid (Own w18 s16_4 e16_4 hAr0_0 (strs lr0_0)) := HOhAr0_0.out.below hb18
      clear hb18
      generalize hkk : ((1 + nr0_0 : Nat) : Int) = kq18
      have hk0q18 : 0 ≤ kq18 := by omega
      have hkdq18 : decide (kq18 < 0) = false := by simp; omega
      have HKq18 := Lib.hid hkk
      clear hkk
      obtain rfl : kq18 = kq14 := HKq18.out.symm.trans HKq14.out
      go_wp2
      go_ret
      exact ⟨rfl, HB18.out⟩

section
open Go.ChangeShapes Go.WideShapes Go.ChangeAt
open Go.ChangeMaps (open_string)
set_option maxRecDepth 100000 in
theorem lifted_Put (f0 : (List ByteArray) → Wri → List ByteArray) (f1 : (List ByteArray) → Wri → Bool) (hsp : ∀ (l0_0 : List ByteArray) (e1 : Wri), (e1.fits) → specPut_does l0_0.length l0_0 e1 (f0 l0_0 e1).length (f0 l0_0 e1) (f1 l0_0 e1)) (him : ∀ (l0_0 : List ByteArray) (e1 : Wri), (e1.fits) → implPut_does l0_0.length l0_0 e1 (f0 l0_0 e1).length (f0 l0_0 e1) (f1 l0_0 e1)) (hlen0 : ∀ (l0_0 : List ByteArray) (e1 : Wri), (e1.fits) → ((l0_0.length + bulkS l0_0)) + e1.bulk ≤ 1048576 → (f0 l0_0 e1).length ≤ 2000000) (os : Os) (started : os.Started) (H : Type) (enc : TypeId × Value → H) :
    ReturnsInHanded {} Try.checked os 9 .any (Rows.fnExactPutSpec.pre6 enc Try.prog Try.f9 Rows.fnExactPutRow.domain false) (Rows.fnExactPutSpec.post enc Try.prog Try.f9 false true false false) := by
  refine returnsInHanded_of_change (C := Try.checked) Try.own started (by kernel_rfl) Try.func9
    (ChangeSpec.witness6 (enc := enc) (C := Try.checked) false ⟨#[], #[.agg #[.slice none 0 0], .agg #[.int .i64 0, .int .i64 0, .string ByteArray.empty]], []⟩ 8 (by kernel_rfl) (by kernel_rfl) (by kernel_rfl) (by kernel_rfl)) ?_
  intro W base args ds gs before hval0 hW hcnd _
  have hval : ∀ (j : Nat) t v, Try.f9.params[j]? = some t → args[j]? = some v → Value.okWide Try.prog W .any base t v := hval0
  have hW' := hW
  obtain ⟨p, q, hA0, hV, rfl, hfz, hnd⟩ := hW
  have hA : DataW.TrodAll enc Try.prog W 0 (fun _ => true) true Try.f9.params.toList args.toList ds p := hA0
  rw [Try.params9] at hA hval
  obtain ⟨v0, vs0, d0, ds0, p0, q0, hargs, rfl, rfl, h0, r0⟩ := trodAll_cons hA
  obtain ⟨v1, vs1, d1, ds1, p1, q1, rfl, rfl, rfl, h1, r1⟩ := trodAll_cons r0
  obtain ⟨rfl, rfl, rfl⟩ := trodAll_nil r1
  obtain rfl : args = #[v0, v1] := by cases args; simp_all
  obtain ⟨rfl, rfl⟩ := trodVars_none hV
  have lt0 : ∀ x ∈ p0, x.block < W.heap.size := by obtain ⟨m, hm⟩ := h0; exact DataW.trod_lt m _ _ _ hm
  have kk0 := h0
  have lt1 : ∀ x ∈ p1, x.block < W.heap.size := by obtain ⟨m, hm⟩ := h1; exact DataW.trod_lt m _ _ _ hm
  have kk1 := h1
  obtain ⟨A0_0, n0_0, c0_0, l0_0, rfl, o0_0, hil0_0⟩ := open_Disk (hval 0 _ v0 rfl rfl) h0
  obtain ⟨rfl, o0_0b, o0_0c, o0_0d⟩ := o0_0
  obtain ⟨e1, rfl, hie1⟩ := open_Write (hval 1 _ v1 rfl rfl) h1
  clear hA0 hval0
  refine (walk_Put A0_0 c0_0 _ l0_0 e1 _ _ _ W o0_0d rfl (Nat.le_trans o0_0b o0_0c) hil0_0 hie1 rfl (hlen0 l0_0 e1 hie1) (hsp l0_0 e1 hie1) (him l0_0 e1 hie1)).mono fun e W' ⟨he, bel⟩ => ?_
  subst he
  exact ⟨_, rfl, _, _, _, [], _, [], hW', trodAll_mk1 (shut_bool Try.underlying4 _), (trodAll_cons_mk (Below.trod Try.laidOut (by kernel_rfl) (of_decide_eq_true (by kernel_rfl)) kk0 bel lt0) (trodAll_cons_mk (Below.trod Try.laidOut (by kernel_rfl) (of_decide_eq_true (by kernel_rfl)) kk1 bel lt1) trodAll_mk0)), rfl, bel.frame _, fun h => by cases h⟩
theorem said_Put (f0 : (List ByteArray) → Wri → List ByteArray) (f1 : (List ByteArray) → Wri → Bool) (hsp : ∀ (l0_0 : List ByteArray) (e1 : Wri), (e1.fits) → specPut_does l0_0.length l0_0 e1 (f0 l0_0 e1).length (f0 l0_0 e1) (f1 l0_0 e1)) (him : ∀ (l0_0 : List ByteArray) (e1 : Wri), (e1.fits) → implPut_does l0_0.length l0_0 e1 (f0 l0_0 e1).length (f0 l0_0 e1) (f1 l0_0 e1)) (hlen0 : ∀ (l0_0 : List ByteArray) (e1 : Wri), (e1.fits) → ((l0_0.length + bulkS l0_0)) + e1.bulk ≤ 1048576 → (f0 l0_0 e1).length ≤ 2000000) : Rows.FnExactPutSaid :=
  OpenClaim.holds_of_wide 9 Try.f9 rfl rfl rfl rfl rfl rfl rfl ⟨rfl, rfl, rfl, rfl, rfl⟩ rfl rfl rfl rfl rfl (by kernel_rfl) Try.func9 (by kernel_rfl)
    (of_decide_eq_true (by kernel_rfl)) (by unfold Func.isWrapper; first | (rw [if_pos (by decide +kernel)]; kernel_rfl) | (rw [if_neg (by decide +kernel)]; exact ⟨rfl, rfl⟩))
    (fun os started H enc _ => lifted_Put f0 f1 hsp him hlen0 os started H enc)
end
end Go.Proofs.Ytjmhebmjlnianaa
