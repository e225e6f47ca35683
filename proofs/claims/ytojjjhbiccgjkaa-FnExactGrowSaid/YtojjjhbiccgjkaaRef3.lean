/- TextOf of the reference. -/
import Derived.Test.YtojjjhbiccgjkaaRef2
import Derived.Lib.ConvBytes
import Derived.Laws.IdiomStrings
namespace Go.Proofs.Ytojjjhbiccgjkaa
set_option linter.unusedVariables false
set_option linter.unusedSimpArgs false
open Go.RowKit

theorem bytes_below (w : World) (e : TypeId) (s : ByteArray) : Below w.heap.size w (Lib.bytesWorld w e s) :=
  ⟨rfl, rfl, rfl, by rw [Lib.bytesWorld_size]; omega, fun k hk => Lib.bytesWorld_at_old w e s k hk⟩
theorem bytes_rd (w : World) (e : TypeId) (s : ByteArray) : Rd (Lib.bytesWorld w e s) 0 (Lib.bytesWorld w e s).heap.size (some ⟨w.heap.size, 0, none⟩) (Lib.byteCells s.data.toList) := fun _ =>
  ⟨w.heap.size, 0, rfl, Nat.zero_le _, by rw [Lib.bytesWorld_size]; omega, Nat.le_refl _, fun j u hu => by
    simp only [Lib.byteCells, List.getElem?_map, Option.map_eq_some_iff] at hu
    obtain ⟨b, hb, rfl⟩ := hu
    have hj : j < s.size := by
      have := (List.getElem?_eq_some_iff.1 hb).1
      rwa [Array.length_toList] at this
    rw [Nat.zero_add, Lib.bytesWorld_cell w e s j hj, List.getD_eq_getElem?_getD, hb]; rfl⟩
theorem row_below {w w' : World} {base : Nat} {e : TypeId} {size n : Nat} {v : Value} {xs : List Value} (h : w.ownsRow base e size v n xs) (hb : Below w.heap.size w w') : w'.ownsRow base e size v n xs :=
  h.kept (row := none) ⟨hb.os, hb.tape, hb.output, hb.size, fun k hk _ => hb.block k hk⟩ (by cases hv : v.ownBlock <;> simp)

set_option maxRecDepth 100000 in
set_option maxHeartbeats 400000 in
theorem specTextOf_c (A : Option Addr) (c lo hi n : Nat) (l : List Int) (w : World) (hr : Rd w lo hi A (ws l)) (hn : l.length = n) (hl : n ≤ 1000) (h1 : 1 ≤ n) (hw : ∀ x ∈ l, 0 ≤ x ∧ x < 4294967296) :
    Calls Try.prog 195 #[.slice A n c] w fun e w' => e = .returned (.tuple #[.string (textT l), .bool true]) ∧ Below w.heap.size w w' := by
  have hrow := row_made w 5 0
  have hbl : Below w.heap.size w (w.alloc (.cells #[] 5)) := (Below.refl _ _).alloc (Nat.le_refl _) _
  have HROW := Lib.hid hrow
  have HBL := Lib.hid hbl
  have HR := Lib.hid hr.base
  have HN := Lib.hid hn
  have HW := Lib.hid hw
  have hcv := fun (W : World) (s : ByteArray) => Lib.run_convert_string_bytes (P := Try.prog) W 9 119 5 s Try.underlying9 Try.underlying119 Try.underlying5
  clear hrow hbl hr hn hw
  go_enter Try.func195, Try.ntmps195
  go_wp2
  go_loopw [4, 5] (fun v i wr => ∃ (k m : Nat) (A0 : Option Addr) (c0 : Nat), k ≤ n ∧ i = .int .i64 k ∧ m = 4 * k ∧ v = .slice A0 m c0 ∧ wr.ownsRow w.heap.size 5 1 (.slice A0 m c0) m (Lib.byteCells (textW (l.take k))) ∧ Below w.heap.size w wr) (fun _ i _ => n - (intOf i).toNat)
  case atStart => exact ⟨0, 0, _, 0, Nat.zero_le _, rfl, rfl, rfl, HROW.out, HBL.out⟩
  case round =>
    obtain ⟨k, m, A0, c0, hk, rfl, hm, rfl, how, hb⟩ := hrel
    have HOW := Lib.hid how
    have HB := Lib.hid hb
    have HM := Lib.hid hm
    have hzr : w.heap.size ≤ wr.heap.size := hb.size
    clear how hb hm
    by_cases hlt : k < n
    · have hkl : k < l.length := by rw [HN.out]; exact hlt
      obtain ⟨b, off, rfl, hbz, hcell⟩ := (HR.out.below HB.out).wd hkl
      have hxw := HW.out _ (List.getElem_mem hkl)
      have HT := Lib.hid (textW_take (List.getElem?_eq_getElem hkl))
      generalize l[k] = x at *
      go_wp2_with fail
      refine (specWordText_c x _ hxw).mono ?_
      rintro e w1 ⟨rfl, hb1⟩
      have hz1 := hb1.size
      have HB1 := Lib.hid (below_then HB.out hb1 HB.out.size)
      have HO1 := Lib.hid (row_below HOW.out hb1)
      have hm4 : (wordText x).size = 4 := wordText_size x
      have HM4 := Lib.hid hm4
      clear hb1 HOW hm4
      have HO2 := Lib.hid (row_below HO1.out (bytes_below w1 5 (wordText x)))
      have HB2 := Lib.hid (below_then HB1.out (bytes_below w1 5 (wordText x)) HB1.out.size)
      have HRD := Lib.hid (bytes_rd w1 5 (wordText x))
      go_wp2_with (at_builtin; refine appBy rfl _ _ rfl w.heap.size _ _ _ rfl HO2.out _ _ _ 0 _ (wordText x).data.toList rfl (by rw [Array.length_toList]; rfl) HRD.out (fun h => by cases h) (by have h1 := HM.out; have h2 := HM4.out; omega) HB2.out.size ?_)
      intro v2 w2 hown2 hg2
      have hon := grown_only HO2.out hg2
      obtain ⟨A2, c2, rfl, _, _, _⟩ := ownsRow_slice hown2
      have HB3 : Hid (Below w.heap.size w w2) := below_only HB2.out hon (Nat.le_refl _) HB2.out.size
      rw [← bys_app, ← HT.out, HM4.out] at hown2
      have HO3 := Lib.hid hown2
      clear hown2 hg2 hon HO2 HO1
      go_wp2
      go_roundw
      case rel => exact ⟨k + 1, m + 4, A2, c2, by omega, by go_num, by have := HM.out; omega, by rw [HM4.out], HO3.out, HB3.out⟩
      case measure => simp [intOf]; omega
    · obtain rfl : k = n := by omega
      have hT : textW (l.take k) = textW l := by rw [List.take_of_length_le (by rw [HN.out]; exact Nat.le_refl _)]
      have hr := (Own.of_ownsRow HOW.out).rd
      rw [hT] at hr
      have hml : (textW l).length = m := by rw [textW_len, HN.out, HM.out]
      have hne : Lib.byteCells (textW l) ≠ [] := by
        intro e
        have e2 := bys_len (textW l)
        have := HM.out
        rw [e, hml] at e2
        simp at e2
        omega
      obtain ⟨b, off, rfl, _, _, _, hcs⟩ := hr hne
      have hcb := run_convert_bytes_back (P := Try.prog) wr 119 9 5 ⟨b, off, none⟩ c0 (textW l) Try.underlying119 Try.underlying5 Try.underlying9 (fun j hj => by
        have h := hcs j (.int .u8 ((textW l)[j].toNat : Int)) (by simp [Lib.byteCells, hj])
        rwa [Addr.add_lit])
      rw [hml] at hcb
      clear hr hcs hcv
      go_wp2
      refine bodyPost_ret (v := .tuple #[.string (textT l), .bool true]) (by simp [results, Try.results195, go_sem, textT]) rfl ?_
      exact ⟨rfl, HB.out⟩
end Go.Proofs.Ytojjjhbiccgjkaa
