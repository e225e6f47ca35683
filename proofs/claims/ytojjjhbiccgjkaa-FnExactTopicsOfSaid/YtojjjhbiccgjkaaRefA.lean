/- The reference's side of the hash. WordsOf of the reference, at a block. TextOf of the reference. l02First of the reference. PadOf of the reference. PadOf of the reference at any length. -/
import Derived.Test.YtojjjhbiccgjkaaAppW
import Derived.Test.YtojjjhbiccgjkaaMixAll
import Derived.Test.YtojjjhbiccgjkaaDig
import Derived.Lib.ConvBytes
import Derived.Laws.IdiomStrings
import Derived.Laws.OwnMore
namespace Go.Proofs.Ytojjjhbiccgjkaa
set_option linter.unusedVariables false
set_option linter.unusedSimpArgs false
open Go.RowKit

theorem row_made (w : World) (e t : TypeId) : (w.alloc (.cells #[] e)).ownsRow w.heap.size e 1 (.slice (some ⟨w.heap.size, 0, none⟩) 0 0) 0 [] :=
  World.ownsRow_made (base := w.heap.size) (e := e) (size := 1) w #[] 0 (by simp) (Nat.zero_le _) rfl
theorem firstW_get (tag : Int) (k : Nat) (h : k < 8) : (firstW tag)[k]? = some (fw tag k) := by simp [firstW, h]
set_option maxRecDepth 100000 in
set_option maxHeartbeats 400000 in
theorem specStartOf_c (tag : Int) (w : World) : Calls Try.prog 158 #[.int .i64 tag] w fun e w' => ∃ A n c, e = .returned (.tuple #[.slice A n c, .bool (inR tag 0 255)]) ∧ Below w.heap.size w w' ∧ (inR tag 0 255 = true → n = 8 ∧ Rd w' w.heap.size w'.heap.size A (ws (firstW tag))) := by
  go_enter Try.func158, Try.ntmps158
  go_wp2_with fail
  have hrow := row_made w 169 0
  have hbl : Below w.heap.size w (w.alloc (.cells #[] 169)) := (Below.refl _ _).alloc (Nat.le_refl _) _
  have HROW := Lib.hid hrow
  have HBL := Lib.hid hbl
  clear hrow hbl
  refine calls_named fun W hW => ?_
  rw [← hW] at HROW HBL
  clear hW
  refine (l01In_c tag 0 255 _).mono ?_
  rintro e w1 ⟨rfl, rfl⟩
  rcases hq : inR tag 0 255 with _ | _
  · go_wp2
    refine bodyPost_ret (v := .tuple #[.slice (some ⟨w.heap.size, 0, none⟩) 0 0, .bool false]) (by simp [results, Try.results158, go_sem]) rfl ?_
    exact ⟨_, _, _, by rw [hq], HBL.out, fun h => by rw [hq] at h; cases h⟩
  · have hr := inR_true.1 hq
    go_wp2
    go_loopw [4, 5] (fun v i wr => ∃ (k : Nat) (A0 : Option Addr) (c0 : Nat), k ≤ 8 ∧ i = .int .i64 k ∧ v = .slice A0 k c0 ∧ wr.ownsRow w.heap.size 169 1 (.slice A0 k c0) k (ws ((firstW tag).take k)) ∧ Below w.heap.size w wr) (fun _ i _ => 8 - (intOf i).toNat)
    case atStart => exact ⟨0, _, 0, Nat.zero_le _, rfl, rfl, HROW.out, HBL.out⟩
    case round =>
      obtain ⟨k, A0, c0, hk, rfl, rfl, how, hb⟩ := hrel
      have HOW := Lib.hid how
      have HB := Lib.hid hb
      have hzr : w.heap.size ≤ wr.heap.size := hb.size
      clear how hb
      by_cases hlt : k < 8
      · have hT := take_succ (firstW_get tag k hlt)
        have HT := Lib.hid hT
        clear hT
        go_wp2_with (at_builtin; refine app1Wd rfl _ _ rfl w.heap.size _ _ _ rfl (HOW.out.alloc _) wr.heap.size (fw tag k) rfl (NewBox.new wr _ _) (by omega) (by first | omega | (simp; done) | (simp; omega)) ?_)
        intro v2 w2 hown2 hg2
        have hon := grown_only (HOW.out.alloc _) hg2
        obtain ⟨A2, c2, rfl, _, _, _⟩ := ownsRow_slice hown2
        have HB2 : Hid (Below w.heap.size w w2) := below_only (HB.out.alloc hzr _) hon (Nat.le_refl _) (by simp; omega)
        rw [← ws_app, ← HT.out] at hown2
        have HO2 := Lib.hid hown2
        clear hown2 hg2 hon HOW
        go_wp2
        go_roundw
        case rel => exact ⟨k + 1, A2, c2, by omega, by go_num, rfl, HO2.out, HB2.out⟩
        case measure => simp [intOf]; omega
      · obtain rfl : k = 8 := by omega
        go_wp2
        refine bodyPost_ret (v := .tuple #[.slice A0 8 c0, .bool true]) (by simp [results, Try.results158, go_sem]) rfl ?_
        refine ⟨A0, 8, c0, by rw [hq], HB.out, fun _ => ⟨rfl, ?_⟩⟩
        have h := (Own.of_ownsRow HOW.out).rd
        rwa [List.take_of_length_le (by rw [firstW_len]; exact Nat.le_refl _)] at h
end Go.Proofs.Ytojjjhbiccgjkaa

namespace Go.Proofs.Ytojjjhbiccgjkaa
set_option linter.unusedVariables false
set_option linter.unusedSimpArgs false
open Go.RowKit

theorem blockAt_get (t : ByteArray) (o k : Nat) (h : k < 16) : (blockAt t o)[k]? = some (wAt t (o + 4 * k)) := by simp [blockAt, h]
set_option maxRecDepth 100000 in
set_option maxHeartbeats 400000 in
theorem specWordsOf_c (t : ByteArray) (w : World) (hsz : t.size = 64) : Calls Try.prog 196 #[.string t] w fun e w' => ∃ A c, e = .returned (.tuple #[.slice A 16 c, .bool true]) ∧ Below w.heap.size w w' ∧ Rd w' w.heap.size w'.heap.size A (ws (blockAt t 0)) := by
  have hs2 : (t.size : Int) = 64 := by omega
  have HSZ := Lib.hid hsz
  clear hsz
  have hrow := row_made w 169 0
  have hbl : Below w.heap.size w (w.alloc (.cells #[] 169)) := (Below.refl _ _).alloc (Nat.le_refl _) _
  have HROW := Lib.hid hrow
  have HBL := Lib.hid hbl
  clear hrow hbl
  go_enter Try.func196, Try.ntmps196
  go_wp2
  go_loopw [4, 5] (fun v i wr => ∃ (k : Nat) (A0 : Option Addr) (c0 : Nat), k ≤ 16 ∧ i = .int .i64 (4 * k : Nat) ∧ v = .slice A0 k c0 ∧ wr.ownsRow w.heap.size 169 1 (.slice A0 k c0) k (ws ((blockAt t 0).take k)) ∧ Below w.heap.size w wr) (fun _ i _ => 64 - (intOf i).toNat)
  case atStart => exact ⟨0, _, 0, Nat.zero_le _, rfl, rfl, HROW.out, HBL.out⟩
  case round =>
    obtain ⟨k, A0, c0, hk, rfl, rfl, how, hb⟩ := hrel
    have HOW := Lib.hid how
    have HB := Lib.hid hb
    have hzr : w.heap.size ≤ wr.heap.size := hb.size
    clear how hb
    by_cases hlt : k < 16
    · have hT := take_succ (blockAt_get t 0 k hlt)
      obtain ⟨m4, hm4⟩ : ∃ m, m = 4 * k := ⟨_, rfl⟩
      rw [Nat.zero_add, ← hm4] at hT
      rw [← hm4]
      have HM4 := Lib.hid hm4
      have hm5 : (m4 : Int) < 64 := by omega
      have hfit : m4 + 4 ≤ t.size := by have := HSZ.out; omega
      have hmx : t.size ≤ maxLen := by have := HSZ.out; unfold maxLen; omega
      have HT := Lib.hid hT
      have HWA := Lib.hid (wAt_eq t m4 hfit)
      have HMX := Lib.hid hmx
      have HF := Lib.hid hfit
      clear hT hm4 hmx
      go_wp2_with fail
      refine (specWordAt_c t m4 _ HMX.out HF.out).mono ?_
      rintro e w1 ⟨rfl, rfl⟩
      rw [HWA.out]
      go_wp2_with (at_builtin; refine app1Wd rfl _ _ rfl w.heap.size _ _ _ rfl (HOW.out.alloc _) wr.heap.size (wAt t m4) rfl (NewBox.new wr _ _) (by omega) (by first | omega | (simp; done) | (simp; omega)) ?_)
      intro v2 w2 hown2 hg2
      have hon := grown_only (HOW.out.alloc _) hg2
      obtain ⟨A2, c2, rfl, _, _, _⟩ := ownsRow_slice hown2
      have HB2 : Hid (Below w.heap.size w w2) := below_only (HB.out.alloc hzr _) hon (Nat.le_refl _) (by simp; omega)
      rw [← ws_app, ← HT.out] at hown2
      have HO2 := Lib.hid hown2
      clear hown2 hg2 hon HOW
      go_wp2
      go_roundw
      case rel => exact ⟨k + 1, A2, c2, by omega, by have := HM4.out; rw [show 4 * (k + 1) = m4 + 4 by omega]; rfl, rfl, HO2.out, HB2.out⟩
      case measure => simp [intOf]; omega
    · obtain rfl : k = 16 := by omega
      go_wp2
      refine bodyPost_ret (v := .tuple #[.slice A0 16 c0, .bool true]) (by simp [results, Try.results196, go_sem]) rfl ?_
      refine ⟨A0, c0, rfl, HB.out, ?_⟩
      have h := (Own.of_ownsRow HOW.out).rd
      rwa [List.take_of_length_le (by rw [(blockAt_wds t 0).1]; exact Nat.le_refl _)] at h
end Go.Proofs.Ytojjjhbiccgjkaa

namespace Go.Proofs.Ytojjjhbiccgjkaa
set_option linter.unusedVariables false
set_option linter.unusedSimpArgs false
open Go.RowKit

theorem bytes_below (w : World) (e : TypeId) (s : ByteArray) : Below w.heap.size w (Lib.bytesWorld w e s) :=
  ⟨rfl, rfl, rfl, by rw [Lib.bytesWorld_size]; omega, fun k hk => Lib.bytesWorld_at_old w e s k hk⟩
theorem bytes_rd (w : World) (e : TypeId) (s : ByteArray) : Rd (Lib.bytesWorld w e s) 0 (Lib.bytesWorld w e s).heap.size (some ⟨w.heap.size, 0, none⟩) (Lib.byteCells s.data.toList) := fun _ =>
  ⟨w.heap.size, 0, rfl, Nat.zero_le _, by rw [Lib.bytesWorld_size]; omega, Nat.le_refl _, fun j u hu => by
    simp only [Lib.byteCells, List.getElem?_map, Option.map_eq_some_iff] at hu
    obtain ⟨b, hb, rfl⟩ := hu
    have hj : j < s.size := by
      have := (List.getElem?_eq_some_iff.1 hb).1
      rwa [Array.length_toList] at this
    rw [Nat.zero_add, Lib.bytesWorld_cell w e s j hj, List.getD_eq_getElem?_getD, hb]; rfl⟩
theorem row_below {w w' : World} {base : Nat} {e : TypeId} {size n : Nat} {v : Value} {xs : List Value} (h : w.ownsRow base e size v n xs) (hb : Below w.heap.size w w') : w'.ownsRow base e size v n xs :=
  h.kept (row := none) ⟨hb.os, hb.tape, hb.output, hb.size, fun k hk _ => hb.block k hk⟩ (by cases hv : v.ownBlock <;> simp)

set_option maxRecDepth 100000 in
set_option maxHeartbeats 400000 in
theorem specTextOf_c (A : Option Addr) (c lo hi n : Nat) (l : List Int) (w : World) (hr : Rd w lo hi A (ws l)) (hn : l.length = n) (hl : n ≤ 1000) (h1 : 1 ≤ n) (hw : ∀ x ∈ l, 0 ≤ x ∧ x < 4294967296) :
    Calls Try.prog 195 #[.slice A n c] w fun e w' => e = .returned (.tuple #[.string (textT l), .bool true]) ∧ Below w.heap.size w w' := by
  have hrow := row_made w 5 0
  have hbl : Below w.heap.size w (w.alloc (.cells #[] 5)) := (Below.refl _ _).alloc (Nat.le_refl _) _
  have HROW := Lib.hid hrow
  have HBL := Lib.hid hbl
  have HR := Lib.hid hr.base
  have HN := Lib.hid hn
  have HW := Lib.hid hw
  have hcv := fun (W : World) (s : ByteArray) => Lib.run_convert_string_bytes (P := Try.prog) W 9 119 5 s Try.underlying9 Try.underlying119 Try.underlying5
  clear hrow hbl hr hn hw
  go_enter Try.func195, Try.ntmps195
  go_wp2
  go_loopw [4, 5] (fun v i wr => ∃ (k m : Nat) (A0 : Option Addr) (c0 : Nat), k ≤ n ∧ i = .int .i64 k ∧ m = 4 * k ∧ v = .slice A0 m c0 ∧ wr.ownsRow w.heap.size 5 1 (.slice A0 m c0) m (Lib.byteCells (textW (l.take k))) ∧ Below w.heap.size w wr) (fun _ i _ => n - (intOf i).toNat)
  case atStart => exact ⟨0, 0, _, 0, Nat.zero_le _, rfl, rfl, rfl, HROW.out, HBL.out⟩
  case round =>
    obtain ⟨k, m, A0, c0, hk, rfl, hm, rfl, how, hb⟩ := hrel
    have HOW := Lib.hid how
    have HB := Lib.hid hb
    have HM := Lib.hid hm
    have hzr : w.heap.size ≤ wr.heap.size := hb.size
    clear how hb hm
    by_cases hlt : k < n
    · have hkl : k < l.length := by rw [HN.out]; exact hlt
      obtain ⟨b, off, rfl, hbz, hcell⟩ := (HR.out.below HB.out).wd hkl
      have hxw := HW.out _ (List.getElem_mem hkl)
      have HT := Lib.hid (textW_take (List.getElem?_eq_getElem hkl))
      generalize l[k] = x at *
      go_wp2_with fail
      refine (specWordText_c x _ hxw).mono ?_
      rintro e w1 ⟨rfl, hb1⟩
      have hz1 := hb1.size
      have HB1 := Lib.hid (below_then HB.out hb1 HB.out.size)
      have HO1 := Lib.hid (row_below HOW.out hb1)
      have hm4 : (wordText x).size = 4 := wordText_size x
      have HM4 := Lib.hid hm4
      clear hb1 HOW hm4
      have HO2 := Lib.hid (row_below HO1.out (bytes_below w1 5 (wordText x)))
      have HB2 := Lib.hid (below_then HB1.out (bytes_below w1 5 (wordText x)) HB1.out.size)
      have HRD := Lib.hid (bytes_rd w1 5 (wordText x))
      go_wp2_with (at_builtin; refine appBy rfl _ _ rfl w.heap.size _ _ _ rfl HO2.out _ _ _ 0 _ (wordText x).data.toList rfl (by rw [Array.length_toList]; rfl) HRD.out (fun h => by cases h) (by have h1 := HM.out; have h2 := HM4.out; omega) HB2.out.size ?_)
      intro v2 w2 hown2 hg2
      have hon := grown_only HO2.out hg2
      obtain ⟨A2, c2, rfl, _, _, _⟩ := ownsRow_slice hown2
      have HB3 : Hid (Below w.heap.size w w2) := below_only HB2.out hon (Nat.le_refl _) HB2.out.size
      rw [← bys_app, ← HT.out, HM4.out] at hown2
      have HO3 := Lib.hid hown2
      clear hown2 hg2 hon HO2 HO1
      go_wp2
      go_roundw
      case rel => exact ⟨k + 1, m + 4, A2, c2, by omega, by go_num, by have := HM.out; omega, by rw [HM4.out], HO3.out, HB3.out⟩
      case measure => simp [intOf]; omega
    · obtain rfl : k = n := by omega
      have hT : textW (l.take k) = textW l := by rw [List.take_of_length_le (by rw [HN.out]; exact Nat.le_refl _)]
      have hr := (Own.of_ownsRow HOW.out).rd
      rw [hT] at hr
      have hml : (textW l).length = m := by rw [textW_len, HN.out, HM.out]
      have hne : Lib.byteCells (textW l) ≠ [] := by
        intro e
        have e2 := bys_len (textW l)
        have := HM.out
        rw [e, hml] at e2
        simp at e2
        omega
      obtain ⟨b, off, rfl, _, _, _, hcs⟩ := hr hne
      have hcb := run_convert_bytes_back (P := Try.prog) wr 119 9 5 ⟨b, off, none⟩ c0 (textW l) Try.underlying119 Try.underlying5 Try.underlying9 (fun j hj => by
        have h := hcs j (.int .u8 ((textW l)[j].toNat : Int)) (by simp [Lib.byteCells, hj])
        rwa [Addr.add_lit])
      rw [hml] at hcb
      clear hr hcs hcv
      go_wp2
      refine bodyPost_ret (v := .tuple #[.string (textT l), .bool true]) (by simp [results, Try.results195, go_sem, textT]) rfl ?_
      exact ⟨rfl, HB.out⟩
end Go.Proofs.Ytojjjhbiccgjkaa

namespace Go.Proofs.Ytojjjhbiccgjkaa
set_option linter.unusedVariables false
set_option linter.unusedSimpArgs false
open Go.RowKit

set_option maxRecDepth 100000 in
set_option maxHeartbeats 400000 in
theorem l02First_c (width : Nat) (A : Option Addr) (c lo hi : Nat) (l : List Int) (w : World) (hw : width ≤ 32) (hl : Wds 8 l) (hr : Rd w lo hi A (ws l)) :
    Calls Try.prog 160 #[.int .i64 width, .slice A 8 c] w fun e w' => e = .returned (.string (chainT width l)) ∧ Below w.heap.size w w' := by
  have hsz : (textT l).size = 32 := by rw [textT_size, hl.1]
  have hC : chainT width l = (textT l).extract 0 width := rfl
  have HC := Lib.hid hC
  have hsz2 : ((textT l).size : Int) = 32 := by omega
  have hT := fun W (h : Rd W lo hi A (ws l)) => specTextOf_c A c lo hi 8 l W h hl.1 (by omega) (by omega) hl.2
  have HT := Lib.hid hT
  have HR := Lib.hid hr
  have hw2 : (width : Int) ≤ 32 := by omega
  clear hl hC hT hr hsz
  generalize textT l = tx at *
  go_enter Try.func160, Try.ntmps160
  go_wp2_with fail
  refine (HT.out _ HR.out).mono ?_
  rintro e w1 ⟨rfl, hb1⟩
  have HB := Lib.hid hb1
  clear hb1
  go_wp2
  go_ret
  exact ⟨by rw [HC.out]; rfl, HB.out⟩
end Go.Proofs.Ytojjjhbiccgjkaa

namespace Go.Proofs.Ytojjjhbiccgjkaa
set_option linter.unusedVariables false
set_option linter.unusedSimpArgs false
open Go.RowKit

def lenOf : Value → Nat
  | .slice _ n _ => n
  | _ => 0
def padZ (j : Nat) : List UInt8 := 128 :: List.replicate j 0
theorem padZ_next (j : Nat) : padZ (j + 1) = padZ j ++ [0] := by rw [padZ, padZ, List.replicate_succ', List.cons_append]
def padB (n i : Nat) : UInt8 := UInt8.ofNat (n / 256 ^ i % 256)
def padE (n : Nat) : Nat → List UInt8
  | 0 => []
  | j + 1 => padE n j ++ [padB n (7 - j)]
theorem padE_8 (n : Nat) (h : n ≤ 4000) : padE n 8 = [0, 0, 0, 0, 0, 0, UInt8.ofNat (n / 256 % 256), UInt8.ofNat (n % 256)] := by
  have e : ∀ i, 65536 ≤ 256 ^ i → padB n i = 0 := fun i hi => by
    rw [padB, Nat.div_eq_of_lt (by omega)]; rfl
  show [padB n 7, padB n 6, padB n 5, padB n 4, padB n 3, padB n 2, padB n 1, padB n 0] = _
  rw [e 7 (by decide), e 6 (by decide), e 5 (by decide), e 4 (by decide), e 3 (by decide), e 2 (by decide)]
  simp [padB]
theorem wordText_small (n : Nat) (h : n ≤ 4000) : wordText n = ⟨#[0, 0, UInt8.ofNat (n / 256 % 256), UInt8.ofNat (n % 256)]⟩ := by
  have e1 : (n : Int) / 16777216 = 0 := by omega
  have e2 : (n : Int) / 65536 % 256 = 0 := by omega
  have e3 : (n : Int) / 256 % 256 = (n / 256 % 256 : Nat) := by omega
  have e4 : (n : Int) % 256 = (n % 256 : Nat) := by omega
  rw [wordText, e1, e2, e3, e4]
  rfl
theorem padE_all (n : Nat) (h : n ≤ 4000) (z : Nat) : ((⟨(padZ z ++ padE n 8).toArray⟩ : ByteArray)) = ⟨#[128]⟩ ++ zerosT z ++ wordText 0 ++ wordText n := by
  have hz : Lib.repeatL [0] z = List.replicate z (0 : UInt8) := by
    have := Lib.repeatL_replicate 0 1 z
    simpa using this
  have w0 : wordText 0 = ⟨#[0, 0, 0, 0]⟩ := rfl
  rw [padE_8 n h, w0, wordText_small n h, zerosT, hz, padZ]
  apply ByteArray.ext
  simp only [ByteArray.data_append]
  apply Array.toList_inj.1
  simp
set_option maxRecDepth 100000 in
set_option maxHeartbeats 400000 in
theorem specPadOf_c (n : Nat) (w : World) (hn : n ≤ 4000) : Calls Try.prog 159 #[.int .i64 n] w fun e w' => e = .returned (.tuple #[.string (padT n), .bool true]) ∧ Below w.heap.size w w' := by
  obtain ⟨z, hz⟩ : ∃ z, z = (119 - n % 64) % 64 := ⟨_, rfl⟩
  have hz2 : z < 64 := by omega
  have hrow : (w.alloc (.cells #[.int .u8 128] 5)).ownsRow w.heap.size 5 1 (.slice (some ⟨w.heap.size, 0, none⟩) 1 1) 1 (Lib.byteCells (padZ 0)) :=
    World.ownsRow_lit (base := w.heap.size) (e := 5) (size := 1) w #[.int .u8 128] 1 (Nat.le_refl _) (by unfold maxLen; omega) rfl
  have hbl : Below w.heap.size w (w.alloc (.cells #[.int .u8 128] 5)) := (Below.refl _ _).alloc (Nat.le_refl _) _
  have HROW := Lib.hid hrow
  have HBL := Lib.hid hbl
  have HZ := Lib.hid hz
  have hin : inR (n : Int) 0 4000 = true := inR_true.2 (by omega)
  have HIN := Lib.hid hin
  clear hrow hbl hz hin
  go_enter Try.func159, Try.ntmps159
  go_wp2_with fail
  refine (l01In_c n 0 4000 _).mono ?_
  rintro e w1 ⟨rfl, rfl⟩
  rw [HIN.out]
  go_wp2
  go_loopw [4] (fun v wr => ∃ (j : Nat) (A0 : Option Addr) (c0 : Nat), j ≤ z ∧ v = .slice A0 (1 + j) c0 ∧ wr.ownsRow w.heap.size 5 1 (.slice A0 (1 + j) c0) (1 + j) (Lib.byteCells (padZ j)) ∧ Below w.heap.size w wr) (fun v _ => 65 - lenOf v)
  case atStart => exact ⟨0, _, 1, Nat.zero_le _, rfl, HROW.out, HBL.out⟩
  case round =>
    obtain ⟨j, A0, c0, hj, rfl, how, hb⟩ := hrel
    have HOW := Lib.hid how
    have HB := Lib.hid hb
    have hzr : w.heap.size ≤ wr.heap.size := hb.size
    clear how hb
    obtain ⟨q, hq⟩ : ∃ q, q = 1 + j := ⟨_, rfl⟩
    obtain ⟨r, hr⟩ : ∃ r, r = (n + q + 8) % 64 := ⟨_, rfl⟩
    have E3 : ((n : Int) + q + 8).tmod 64 = r := by rw [Int.tmod_eq_emod_of_nonneg (by omega)]; omega
    have hqb : (q : Int) ≤ 64 := by omega
    rw [← hq] at HOW ⊢
    by_cases hlt : j < z
    · have hr2 : (r : Int) ≠ 0 := by have := HZ.out; omega
      have HR := Lib.hid hr
      have HQ := Lib.hid hq
      clear hr hq
      go_wp2_with (at_builtin; refine appBy rfl _ _ rfl w.heap.size _ _ _ rfl (HOW.out.alloc _) _ 1 1 0 _ [(0 : UInt8)] rfl rfl (NewBox.rd (cs := Lib.byteCells [(0 : UInt8)]) (NewBox.new wr _ _)) (fun h => by cases h) (by omega) (by first | omega | (simp; done) | (simp; omega)) ?_)
      intro v2 w2 hown2 hg2
      have hon := grown_only (HOW.out.alloc _) hg2
      obtain ⟨A2, c2, rfl, _, _, _⟩ := ownsRow_slice hown2
      have HB2 : Hid (Below w.heap.size w w2) := below_only (HB.out.alloc hzr _) hon (Nat.le_refl _) (by simp; omega)
      rw [← bys_app, ← padZ_next] at hown2
      have HO2 := Lib.hid hown2
      clear hown2 hg2 hon HOW
      go_wp2
      go_roundw
      case rel =>
        have h := HQ.out
        exact ⟨j + 1, A2, c2, by omega, by rw [show 1 + (j + 1) = q + 1 by omega], by rw [show 1 + (j + 1) = q + 1 by omega]; exact HO2.out, HB2.out⟩
      case measure => show 65 - (q + 1) < 65 - q; omega
    · obtain rfl : j = z := by omega
      obtain rfl : r = 0 := by have := HZ.out; omega
      have HQ := Lib.hid hq
      clear hr hq
      go_wp2
      go_loopw [4, 5] (fun v i wx => ∃ (p m : Nat) (A1 : Option Addr) (c1 : Nat), p ≤ 8 ∧ m = q + p ∧ i = .int .i64 (7 - (p : Int)) ∧ v = .slice A1 m c1 ∧ wx.ownsRow w.heap.size 5 1 (.slice A1 m c1) m (Lib.byteCells (padZ j ++ padE n p)) ∧ Below w.heap.size w wx) (fun _ i _ => (intOf i + 1).toNat)
      case atStart => exact ⟨0, q, _, _, Nat.zero_le _, rfl, rfl, rfl, by rw [padE, List.append_nil]; exact HOW.out, HB.out⟩
      case round =>
        clear HOW HB
        obtain ⟨p, m, A1, c1, hp, hm, rfl, rfl, how, hb⟩ := hrel
        have HOW := Lib.hid how
        have HB := Lib.hid hb
        have HM := Lib.hid hm
        have hzx := hb.size
        have hmb : (m : Int) ≤ 80 := by omega
        clear how hb hm
        by_cases hlp : p < 8
        · obtain ⟨g, hg⟩ : ∃ g, g = 7 - p := ⟨_, rfl⟩
          have hgp : 7 - (p : Int) = (g : Int) := by omega
          rw [hgp]
          have hg7 : (g : Int) ≤ 7 := by omega
          have HG := Lib.hid hg
          have HGP := Lib.hid hgp
          clear hg hgp
          go_wp2
          go_loop [6, 7] (fun x y => ∃ u : Nat, u ≤ g ∧ y = .int .i64 u ∧ x = .int .i64 ((n / 256 ^ u : Nat) : Int)) (fun _ y => g - (intOf y).toNat)
          case atStart => exact ⟨0, Nat.zero_le _, rfl, by simp⟩
          case round =>
            obtain ⟨u, hu, rfl, rfl⟩ := hrel
            have hx : n / 256 ^ u ≤ 4000 := Nat.le_trans (Nat.div_le_self _ _) hn
            have hnx : n / 256 ^ (u + 1) = n / 256 ^ u / 256 := by rw [Nat.pow_succ, Nat.div_div_eq_div_mul]
            have hpb : (padB n u).toNat = n / 256 ^ u % 256 := by
              rw [padB, UInt8.toNat_ofNat']
              omega
            generalize n / 256 ^ u = X at *
            have E4 : (X : Int).tdiv 256 = (X / 256 : Nat) := by rw [Int.tdiv_eq_ediv_of_nonneg (by omega)]; omega
            have E5 : (X : Int).tmod 256 = ((padB n u).toNat : Int) := by rw [Int.tmod_eq_emod_of_nonneg (by omega), hpb]; omega
            have E6 := byte_lt (padB n u)
            have HNX := Lib.hid hnx
            clear hnx hpb
            by_cases hlu : u < g
            · clear E5
              obtain ⟨Y, hY⟩ : ∃ Y, Y = X / 256 := ⟨_, rfl⟩
              rw [← hY] at E4
              have HY := Lib.hid hY
              have hY2 : (Y : Int) ≤ 4000 := by omega
              clear hY
              go_wp2
              go_round
              case rel => exact ⟨u + 1, by omega, by go_num, by rw [HNX.out, HY.out]⟩
              case measure => simp [intOf]; omega
            · obtain rfl : u = g := by omega
              have HP : Hid (padE n (p + 1) = padE n p ++ [padB n u]) := by rw [Hid, HG.out]; rfl
              clear E4 HNX
              generalize padB n u = bt at *
              go_wp2_with (at_builtin; refine appBy rfl _ _ rfl w.heap.size _ _ _ rfl (HOW.out.alloc _) _ 1 1 0 _ [bt] rfl rfl (NewBox.rd (cs := Lib.byteCells [bt]) (NewBox.new wr _ _)) (fun h => by cases h) (by omega) (by first | omega | (simp; done) | (simp; omega)) ?_)
              intro v2 w2 hown2 hg2
              have hon := grown_only (HOW.out.alloc _) hg2
              obtain ⟨A2, c2, rfl, _, _, _⟩ := ownsRow_slice hown2
              have HB2 : Hid (Below w.heap.size w w2) := below_only (HB.out.alloc hzx _) hon (Nat.le_refl _) (by simp; omega)
              rw [← bys_app, List.append_assoc, ← HP.out] at hown2
              have HO2 := Lib.hid hown2
              clear hown2 hg2 hon HOW
              go_wp2
              go_roundw
              case rel =>
                have h1 := HGP.out
                have h2 := HM.out
                exact ⟨p + 1, m + 1, A2, c2, by omega, by omega, by rw [show (7 : Int) - ((p + 1 : Nat) : Int) = (u : Int) - 1 by omega], rfl, HO2.out, HB2.out⟩
              case measure => first | (simp [intOf]; done) | (simp [intOf]; omega)
        · obtain rfl : p = 8 := by omega
          have hr := (Own.of_ownsRow HOW.out).rd
          have hml : (padZ j ++ padE n 8).length = m := by
            have h := HOW.out.1
            rwa [bys_len, Nat.mul_one] at h
          obtain ⟨b, off, rfl, _, _, _, hcs⟩ := hr (by rw [padZ]; simp [Lib.byteCells])
          have hcb := run_convert_bytes_back (P := Try.prog) wr 119 9 5 ⟨b, off, none⟩ c1 (padZ j ++ padE n 8) Try.underlying119 Try.underlying5 Try.underlying9 (fun i hi => by
            have h := hcs i (.int .u8 ((padZ j ++ padE n 8)[i].toNat : Int)) (by simp only [Lib.byteCells, List.getElem?_map, List.getElem?_eq_getElem hi, Option.map_some])
            rwa [Addr.add_lit])
          rw [hml, padE_all n hn j] at hcb
          have hP : padT n = ⟨#[128]⟩ ++ zerosT j ++ wordText 0 ++ wordText n := by rw [padT, ← HZ.out]
          rw [← hP] at hcb
          clear hr hcs hml hP
          go_wp2
          refine bodyPost_ret (v := .tuple #[.string (padT n), .bool true]) (by simp [results, Try.results159, go_sem]) rfl ?_
          exact ⟨rfl, HB.out⟩
end Go.Proofs.Ytojjjhbiccgjkaa

namespace Go.Proofs.Ytojjjhbiccgjkaa
set_option linter.unusedVariables false
set_option linter.unusedSimpArgs false
open Go.RowKit

set_option maxRecDepth 100000 in
set_option maxHeartbeats 400000 in
theorem specPadOf_no (n : Nat) (w : World) (hn : 4000 < n) : Calls Try.prog 159 #[.int .i64 n] w fun e w' => e = .returned (.tuple #[.string ⟨#[]⟩, .bool false]) ∧ Below w.heap.size w w' := by
  have hin : inR (n : Int) 0 4000 = false := inR_false.2 (.inr (by omega))
  have HIN := Lib.hid hin
  clear hin
  go_enter Try.func159, Try.ntmps159
  go_wp2_with fail
  refine (l01In_c n 0 4000 _).mono ?_
  rintro e w1 ⟨rfl, rfl⟩
  rw [HIN.out]
  go_wp2
  refine bodyPost_ret (v := .tuple #[.string ⟨#[]⟩, .bool false]) (by simp [results, Try.results159, go_sem]) rfl ?_
  exact ⟨rfl, Below.refl _ _⟩
end Go.Proofs.Ytojjjhbiccgjkaa

