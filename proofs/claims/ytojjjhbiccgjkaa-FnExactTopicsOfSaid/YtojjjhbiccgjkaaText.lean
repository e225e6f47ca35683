/- Words written as a text; the Digest of the program. -/
import Derived.Test.YtojjjhbiccgjkaaBld
import Derived.Test.YtojjjhbiccgjkaaPad
import Derived.Test.YtojjjhbiccgjkaaMixAll
namespace Go.Proofs.Ytojjjhbiccgjkaa
set_option linter.unusedVariables false
set_option linter.unusedSimpArgs false
open Go.RowKit

def textW (l : List Int) : List UInt8 := l.flatMap fun x => (wordText x).data.toList
def textT (l : List Int) : ByteArray := ⟨(textW l).toArray⟩
theorem textW_take {l : List Int} {k : Nat} {x : Int} (h : l[k]? = some x) : textW (l.take (k + 1)) = textW (l.take k) ++ (wordText x).data.toList := by
  rw [take_succ h, textW, List.flatMap_append]
  simp [textW]
theorem textW_len (l : List Int) : (textW l).length = 4 * l.length := by
  induction l with
  | nil => rfl
  | cons x r ih =>
    show ((wordText x).data.toList ++ textW r).length = _
    rw [List.length_append, ih, Array.length_toList]
    show 4 + _ = 4 * (r.length + 1)
    omega
theorem Rd.wd {w : World} {lo hi : Nat} {A : Option Addr} {l : List Int} (h : Rd w lo hi A (ws l)) {k : Nat} (hk : k < l.length) :
    ∃ b off, A = some ⟨b, off, none⟩ ∧ b < w.heap.size ∧ w.cell? ⟨b, off + k, none⟩ = some (.int .u32 l[k]) := by
  obtain ⟨b, off, h1, h2, h3⟩ := h.at_ (j := k) (by rw [ws_len]; exact hk)
  exact ⟨b, off, h1, h2, h3 k _ (ws_get (List.getElem?_eq_getElem hk))⟩
theorem bldAt_below {T e : TypeId} {B b : Nat} {p : Value} {bs : List Value} {w w' : World} (h : Lib.BuilderAtF T e B b p bs w) (k : Below w.heap.size w w') : Lib.BuilderAtF T e B b p bs w' := by
  have hlt := h.lt
  obtain ⟨hB, v, hb, hown, hne⟩ := h
  exact ⟨hB, v, (k.block b hlt).trans hb, hown.kept (row := none) ⟨k.os, k.tape, k.output, k.size, fun j hj _ => k.block j hj⟩ (by cases hv : v.ownBlock <;> simp), hne⟩
theorem bld_below {B b : Nat} {l : List UInt8} {w w' : World} (h : IsBld B b l w) (k : Below w.heap.size w w') : IsBld B b l w' := h.elim (fun x => .inl (bldAt_below x k)) (fun x => .inr (bldAt_below x k))

set_option maxRecDepth 100000 in
set_option maxHeartbeats 400000 in
theorem TextOf_c (A : Option Addr) (c lo hi n : Nat) (l : List Int) (w : World) (hr : Rd w lo hi A (ws l)) (hn : l.length = n) (hl : n ≤ 1000) (hw : ∀ x ∈ l, 0 ≤ x ∧ x < 4294967296) :
    Calls Try.prog 198 #[.slice A n c] w fun e w' => e = .returned (.tuple #[.string (textT l), .bool true]) ∧ Below w.heap.size w w' := by
  have HR := Lib.hid hr.base
  have HN := Lib.hid hn
  have HW := Lib.hid hw
  clear hr hn hw
  go_enter Try.func198, Try.ntmps198
  go_wp2_with fail
  have hb0 := bld_new w
  go_loopw [12] (fun i wx => ∃ k : Nat, k ≤ n ∧ i = .int .i64 k ∧ Below w.heap.size w wx ∧ IsBld w.heap.size w.heap.size (textW (l.take k)) wx) (fun i _ => n - (intOf i).toNat)
  case atStart => exact ⟨0, Nat.zero_le _, rfl, (Below.refl _ _).alloc (Nat.le_refl _) _, hb0⟩
  case round =>
    clear hb0
    obtain ⟨k, hk, rfl, hb, hx⟩ := hrel
    have HB := Lib.hid hb
    have HX := Lib.hid hx
    clear hb hx
    by_cases hlt : k < n
    · have hkl : k < l.length := by rw [HN.out]; exact hlt
      obtain ⟨b, off, rfl, hbz, hcell⟩ := (HR.out.below HB.out).wd hkl
      have hxw := HW.out _ (List.getElem_mem hkl)
      have HT := Lib.hid (textW_take (List.getElem?_eq_getElem hkl))
      have hz : (textW (l.take k)).length = 4 * k := by rw [textW_len, List.length_take]; omega
      have HZ := Lib.hid hz
      clear hz
      generalize l[k] = x at *
      go_wp2_with fail
      refine (implWordText_c x _ hxw).mono ?_
      rintro e w1 ⟨rfl, hb1⟩
      have HB1 := Lib.hid (below_then HB.out hb1 HB.out.size)
      have hx1 : IsBld w.heap.size w.heap.size (textW (l.take k)) w1 := bld_below HX.out hb1
      have HX1 := Lib.hid hx1
      clear hb1 hx1 HX
      go_wp2_with fail
      refine (Write_c w.heap.size w.heap.size _ (wordText x) _ HX1.out (by rw [HZ.out]; show _ + 4 ≤ _; omega) HB1.out.size).mono ?_
      rintro e w2 ⟨rfl, hx2, hb2⟩
      rw [← HT.out] at hx2
      have HX2 := Lib.hid hx2
      have HB2 : Hid (Below w.heap.size w w2) := HB1.out.trans hb2
      clear hx2 hb2
      go_wp2
      go_round
      case rel => exact ⟨k + 1, by omega, by go_num, HB2.out, HX2.out⟩
      case measure => simp [intOf]; omega
    · obtain rfl : k = n := by omega
      go_wp2_with fail
      refine (String_c w.heap.size w.heap.size _ _ HX.out HB.out.size).mono ?_
      rintro e w2 ⟨rfl, hb2⟩
      have HB2 : Hid (Below w.heap.size w w2) := HB.out.trans hb2
      clear hb2
      go_wp2
      have hl : l.take k = l := List.take_of_length_le (by rw [HN.out]; exact Nat.le_refl _)
      rw [hl]
      refine bodyPost_ret (v := .tuple #[.string (textT l), .bool true]) (by simp [results, Try.results198, go_sem, textT]) rfl ?_
      exact ⟨rfl, HB2.out⟩
end Go.Proofs.Ytojjjhbiccgjkaa
