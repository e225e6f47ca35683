/- The reference's side of the hash. WordsOf of the reference, at a block. TextOf of the reference. l02First of the reference. PadOf of the reference. PadOf of the reference at any length. What the end of the mixing adds, as one list. MixIn of the reference. l02Mixed of the reference. Digest of the reference. Numbers in bytes. Hashes of nodes, of nothing; frames. -/
import Derived.Test.YtmmepogjocfefaaGreatAppW
import Derived.Test.YtmmepogjocfefaaGreatHash1
import Derived.Test.YtmmepogjocfefaaGreatHash2
import Derived.Lib.ConvBytes
import Derived.Laws.IdiomStrings
import Derived.Laws.OwnMore
import Derived.StillTailTactics
import Derived.Deep.QuietTactic
import Derived.BigQuiet
import Derived.Deep.AppendLies
namespace Go.Proofs.YtmmepogjocfefaaGreat
set_option linter.unusedVariables false
set_option linter.unusedSimpArgs false
open Go.RowKit

theorem row_made (w : World) (e t : TypeId) : (w.alloc (.cells #[] e)).ownsRow w.heap.size e 1 (.slice (some ⟨w.heap.size, 0, none⟩) 0 0) 0 [] :=
 World.ownsRow_made (base := w.heap.size) (e := e) (size := 1) w #[] 0 (by simp) (Nat.zero_le _) rfl
theorem firstW_get (tag : Int) (k : Nat) (h : k < 8) : (firstW tag)[k]? = some (fw tag k) := by simp [firstW, h]
set_option maxRecDepth 100000 in
set_option maxHeartbeats 400000 in
theorem specStartOf_c (tag : Int) (w : World) : Calls Tryz.prog 183 #[.int .i64 tag] w fun e w' => ∃ A n c, e = .returned (.tuple #[.slice A n c, .bool (inR tag 0 255)]) ∧ Below w.heap.size w w' ∧ (inR tag 0 255 = true → n = 8 ∧ Rd w' w.heap.size w'.heap.size A (ws (firstW tag))) := by
 go_enter Tryz.func183, Tryz.ntmps183
 go_wp2_with fail
 have hrow := row_made w 204 0
 have hbl : Below w.heap.size w (w.alloc (.cells #[] 204)) := (Below.refl _ _).alloc (Nat.le_refl _) _
 have HROW := Lib.hid hrow
 have HBL := Lib.hid hbl
 clear hrow hbl
 refine calls_named fun W hW => ?_
 rw [← hW] at HROW HBL
 clear hW
 refine (l01In_c tag 0 255 _).mono ?_
 rintro e w1 ⟨rfl, rfl⟩
 rcases hq : inR tag 0 255 with _ | _
 ·go_wp2
  refine bodyPost_ret (v := .tuple #[.slice (some ⟨w.heap.size, 0, none⟩) 0 0, .bool false]) (by simp [results, Tryz.results183, go_sem]) rfl ?_
  exact ⟨_, _, _, by rw [hq], HBL.out, fun h => by rw [hq] at h; cases h⟩
 ·have hr := inR_true.1 hq
  go_wp2
  go_loopw [4, 5] (fun v i wr => ∃ (k : Nat) (A0 : Option Addr) (c0 : Nat), k ≤ 8 ∧ i = .int .i64 k ∧ v = .slice A0 k c0 ∧ wr.ownsRow w.heap.size 204 1 (.slice A0 k c0) k (ws ((firstW tag).take k)) ∧ Below w.heap.size w wr) (fun _ i _ => 8 - (intOf i).toNat)
  case atStart => exact ⟨0, _, 0, Nat.zero_le _, rfl, rfl, HROW.out, HBL.out⟩
  case round =>
   obtain ⟨k, A0, c0, hk, rfl, rfl, how, hb⟩ := hrel
   have HOW := Lib.hid how
   have HB := Lib.hid hb
   have hzr : w.heap.size ≤ wr.heap.size := hb.size
   clear how hb
   by_cases hlt : k < 8
   ·have hT := take_succ (firstW_get tag k hlt)
    have HT := Lib.hid hT
    clear hT
    go_wp2_with (at_builtin; refine app1Wd rfl _ _ rfl w.heap.size _ _ _ rfl (HOW.out.alloc _) wr.heap.size (fw tag k) rfl (NewBox.new wr _ _) (by omega) (by first | omega | (simp; done) | (simp; omega)) ?_)
    intro v2 w2 hown2 hg2
    have hon := grown_only (HOW.out.alloc _) hg2
    obtain ⟨A2, c2, rfl, _, _, _⟩ := ownsRow_slice hown2
    have HB2 : Hid (Below w.heap.size w w2) := below_only (HB.out.alloc hzr _) hon (Nat.le_refl _) (by simp; omega)
    rw [← ws_app, ← HT.out] at hown2
    have HO2 := Lib.hid hown2
    clear hown2 hg2 hon HOW
    go_wp2
    go_roundw
    case rel => exact ⟨k + 1, A2, c2, by omega, by go_num, rfl, HO2.out, HB2.out⟩
    case measure => simp [intOf]; omega
   ·obtain rfl : k = 8 := by omega
    go_wp2
    refine bodyPost_ret (v := .tuple #[.slice A0 8 c0, .bool true]) (by simp [results, Tryz.results183, go_sem]) rfl ?_
    refine ⟨A0, 8, c0, by rw [hq], HB.out, fun _ => ⟨rfl, ?_⟩⟩
    have h := (Own.of_ownsRow HOW.out).rd
    rwa [List.take_of_length_le (by rw [firstW_len]; exact Nat.le_refl _)] at h
end Go.Proofs.YtmmepogjocfefaaGreat

namespace Go.Proofs.YtmmepogjocfefaaGreat
set_option linter.unusedVariables false
set_option linter.unusedSimpArgs false
open Go.RowKit

theorem blockAt_get (t : ByteArray) (o k : Nat) (h : k < 16) : (blockAt t o)[k]? = some (wAt t (o + 4 * k)) := by simp [blockAt, h]
set_option maxRecDepth 100000 in
set_option maxHeartbeats 400000 in
theorem specWordsOf_c (t : ByteArray) (w : World) (hsz : t.size = 64) : Calls Tryz.prog 206 #[.string t] w fun e w' => ∃ A c, e = .returned (.tuple #[.slice A 16 c, .bool true]) ∧ Below w.heap.size w w' ∧ Rd w' w.heap.size w'.heap.size A (ws (blockAt t 0)) := by
 have hs2 : (t.size : Int) = 64 := by omega
 have HSZ := Lib.hid hsz
 clear hsz
 have hrow := row_made w 204 0
 have hbl : Below w.heap.size w (w.alloc (.cells #[] 204)) := (Below.refl _ _).alloc (Nat.le_refl _) _
 have HROW := Lib.hid hrow
 have HBL := Lib.hid hbl
 clear hrow hbl
 go_enter Tryz.func206, Tryz.ntmps206
 go_wp2
 go_loopw [4, 5] (fun v i wr => ∃ (k : Nat) (A0 : Option Addr) (c0 : Nat), k ≤ 16 ∧ i = .int .i64 (4 * k : Nat) ∧ v = .slice A0 k c0 ∧ wr.ownsRow w.heap.size 204 1 (.slice A0 k c0) k (ws ((blockAt t 0).take k)) ∧ Below w.heap.size w wr) (fun _ i _ => 64 - (intOf i).toNat)
 case atStart => exact ⟨0, _, 0, Nat.zero_le _, rfl, rfl, HROW.out, HBL.out⟩
 case round =>
  obtain ⟨k, A0, c0, hk, rfl, rfl, how, hb⟩ := hrel
  have HOW := Lib.hid how
  have HB := Lib.hid hb
  have hzr : w.heap.size ≤ wr.heap.size := hb.size
  clear how hb
  by_cases hlt : k < 16
  ·have hT := take_succ (blockAt_get t 0 k hlt)
   obtain ⟨m4, hm4⟩ : ∃ m, m = 4 * k := ⟨_, rfl⟩
   rw [Nat.zero_add, ← hm4] at hT
   rw [← hm4]
   have HM4 := Lib.hid hm4
   have hm5 : (m4 : Int) < 64 := by omega
   have hfit : m4 + 4 ≤ t.size := by have := HSZ.out; omega
   have hmx : t.size ≤ maxLen := by have := HSZ.out; unfold maxLen; omega
   have HT := Lib.hid hT
   have HWA := Lib.hid (wAt_eq t m4 hfit)
   have HMX := Lib.hid hmx
   have HF := Lib.hid hfit
   clear hT hm4 hmx
   go_wp2_with fail
   refine (specWordAt_c t m4 _ HMX.out HF.out).mono ?_
   rintro e w1 ⟨rfl, rfl⟩
   rw [HWA.out]
   go_wp2_with (at_builtin; refine app1Wd rfl _ _ rfl w.heap.size _ _ _ rfl (HOW.out.alloc _) wr.heap.size (wAt t m4) rfl (NewBox.new wr _ _) (by omega) (by first | omega | (simp; done) | (simp; omega)) ?_)
   intro v2 w2 hown2 hg2
   have hon := grown_only (HOW.out.alloc _) hg2
   obtain ⟨A2, c2, rfl, _, _, _⟩ := ownsRow_slice hown2
   have HB2 : Hid (Below w.heap.size w w2) := below_only (HB.out.alloc hzr _) hon (Nat.le_refl _) (by simp; omega)
   rw [← ws_app, ← HT.out] at hown2
   have HO2 := Lib.hid hown2
   clear hown2 hg2 hon HOW
   go_wp2
   go_roundw
   case rel => exact ⟨k + 1, A2, c2, by omega, by have := HM4.out; rw [show 4 * (k + 1) = m4 + 4 by omega]; rfl, rfl, HO2.out, HB2.out⟩
   case measure => simp [intOf]; omega
  ·obtain rfl : k = 16 := by omega
   go_wp2
   refine bodyPost_ret (v := .tuple #[.slice A0 16 c0, .bool true]) (by simp [results, Tryz.results206, go_sem]) rfl ?_
   refine ⟨A0, c0, rfl, HB.out, ?_⟩
   have h := (Own.of_ownsRow HOW.out).rd
   rwa [List.take_of_length_le (by rw [(blockAt_wds t 0).1]; exact Nat.le_refl _)] at h
end Go.Proofs.YtmmepogjocfefaaGreat

namespace Go.Proofs.YtmmepogjocfefaaGreat
set_option linter.unusedVariables false
set_option linter.unusedSimpArgs false
open Go.RowKit

theorem bytes_below (w : World) (e : TypeId) (s : ByteArray) : Below w.heap.size w (Lib.bytesWorld w e s) :=
 ⟨rfl, rfl, rfl, by rw [Lib.bytesWorld_size]; omega, fun k hk => Lib.bytesWorld_at_old w e s k hk⟩
theorem bytes_rd (w : World) (e : TypeId) (s : ByteArray) : Rd (Lib.bytesWorld w e s) 0 (Lib.bytesWorld w e s).heap.size (some ⟨w.heap.size, 0, none⟩) (Lib.byteCells s.data.toList) := fun _ =>
 ⟨w.heap.size, 0, rfl, Nat.zero_le _, by rw [Lib.bytesWorld_size]; omega, Nat.le_refl _, fun j u hu => by
   simp only [Lib.byteCells, List.getElem?_map, Option.map_eq_some_iff] at hu
   obtain ⟨b, hb, rfl⟩ := hu
   have hj : j < s.size := by
    have := (List.getElem?_eq_some_iff.1 hb).1
    rwa [Array.length_toList] at this
   rw [Nat.zero_add, Lib.bytesWorld_cell w e s j hj, List.getD_eq_getElem?_getD, hb]; rfl⟩
theorem row_below {w w' : World} {base : Nat} {e : TypeId} {size n : Nat} {v : Value} {xs : List Value} (h : w.ownsRow base e size v n xs) (hb : Below w.heap.size w w') : w'.ownsRow base e size v n xs :=
 h.kept (row := none) ⟨hb.os, hb.tape, hb.output, hb.size, fun k hk _ => hb.block k hk⟩ (by cases hv : v.ownBlock <;> simp)

set_option maxRecDepth 100000 in
set_option maxHeartbeats 400000 in
theorem specTextOf_c (A : Option Addr) (c lo hi n : Nat) (l : List Int) (w : World) (hr : Rd w lo hi A (ws l)) (hn : l.length = n) (hl : n ≤ 1000) (h1 : 1 ≤ n) (hw : ∀ x ∈ l, 0 ≤ x ∧ x < 4294967296) :
  Calls Tryz.prog 205 #[.slice A n c] w fun e w' => e = .returned (.tuple #[.string (textT l), .bool true]) ∧ Below w.heap.size w w' := by
 have hrow := row_made w 5 0
 have hbl : Below w.heap.size w (w.alloc (.cells #[] 5)) := (Below.refl _ _).alloc (Nat.le_refl _) _
 have HROW := Lib.hid hrow
 have HBL := Lib.hid hbl
 have HR := Lib.hid hr.base
 have HN := Lib.hid hn
 have HW := Lib.hid hw
 have hcv := fun (W : World) (s : ByteArray) => Lib.run_convert_string_bytes (P := Tryz.prog) W 9 141 5 s Tryz.underlying9 Tryz.underlying141 Tryz.underlying5
 clear hrow hbl hr hn hw
 go_enter Tryz.func205, Tryz.ntmps205
 go_wp2
 go_loopw [4, 5] (fun v i wr => ∃ (k m : Nat) (A0 : Option Addr) (c0 : Nat), k ≤ n ∧ i = .int .i64 k ∧ m = 4 * k ∧ v = .slice A0 m c0 ∧ wr.ownsRow w.heap.size 5 1 (.slice A0 m c0) m (Lib.byteCells (textW (l.take k))) ∧ Below w.heap.size w wr) (fun _ i _ => n - (intOf i).toNat)
 case atStart => exact ⟨0, 0, _, 0, Nat.zero_le _, rfl, rfl, rfl, HROW.out, HBL.out⟩
 case round =>
  obtain ⟨k, m, A0, c0, hk, rfl, hm, rfl, how, hb⟩ := hrel
  have HOW := Lib.hid how
  have HB := Lib.hid hb
  have HM := Lib.hid hm
  have hzr : w.heap.size ≤ wr.heap.size := hb.size
  clear how hb hm
  by_cases hlt : k < n
  ·have hkl : k < l.length := by rw [HN.out]; exact hlt
   obtain ⟨b, off, rfl, hbz, hcell⟩ := (HR.out.below HB.out).wd hkl
   have hxw := HW.out _ (List.getElem_mem hkl)
   have HT := Lib.hid (textW_take (List.getElem?_eq_getElem hkl))
   generalize l[k] = x at *
   go_wp2_with fail
   refine (specWordText_c x _ hxw).mono ?_
   rintro e w1 ⟨rfl, hb1⟩
   have hz1 := hb1.size
   have HB1 := Lib.hid (below_then HB.out hb1 HB.out.size)
   have HO1 := Lib.hid (row_below HOW.out hb1)
   have hm4 : (wordText x).size = 4 := wordText_size x
   have HM4 := Lib.hid hm4
   clear hb1 HOW hm4
   have HO2 := Lib.hid (row_below HO1.out (bytes_below w1 5 (wordText x)))
   have HB2 := Lib.hid (below_then HB1.out (bytes_below w1 5 (wordText x)) HB1.out.size)
   have HRD := Lib.hid (bytes_rd w1 5 (wordText x))
   go_wp2_with (at_builtin; refine appBy rfl _ _ rfl w.heap.size _ _ _ rfl HO2.out _ _ _ 0 _ (wordText x).data.toList rfl (by rw [Array.length_toList]; rfl) HRD.out (fun h => by cases h) (by have h1 := HM.out; have h2 := HM4.out; omega) HB2.out.size ?_)
   intro v2 w2 hown2 hg2
   have hon := grown_only HO2.out hg2
   obtain ⟨A2, c2, rfl, _, _, _⟩ := ownsRow_slice hown2
   have HB3 := Lib.hid (below_only HB2.out hon (Nat.le_refl _) HB2.out.size)
   rw [← bys_app, ← HT.out, HM4.out] at hown2
   have HO3 := Lib.hid hown2
   clear hown2 hg2 hon HO2 HO1
   go_wp2
   go_roundw
   case rel => exact ⟨k + 1, m + 4, A2, c2, by omega, by go_num, by have := HM.out; omega, by rw [HM4.out], HO3.out, HB3.out⟩
   case measure => simp [intOf]; omega
  ·obtain rfl : k = n := by omega
   have hT : textW (l.take k) = textW l := by rw [List.take_of_length_le (by rw [HN.out]; exact Nat.le_refl _)]
   have hr := (Own.of_ownsRow HOW.out).rd
   rw [hT] at hr
   have hml : (textW l).length = m := by rw [textW_len, HN.out, HM.out]
   have hne : Lib.byteCells (textW l) ≠ [] := by
    intro e
    have e2 := bys_len (textW l)
    have := HM.out
    rw [e, hml] at e2
    simp at e2
    omega
   obtain ⟨b, off, rfl, _, _, _, hcs⟩ := hr hne
   have hcb := run_convert_bytes_back (P := Tryz.prog) wr 141 9 5 ⟨b, off, none⟩ c0 (textW l) Tryz.underlying141 Tryz.underlying5 Tryz.underlying9 (fun j hj => by
    have h := hcs j (.int .u8 ((textW l)[j].toNat : Int)) (by simp [Lib.byteCells, hj])
    rwa [Addr.add_lit])
   rw [hml] at hcb
   clear hr hcs hcv
   go_wp2
   refine bodyPost_ret (v := .tuple #[.string (textT l), .bool true]) (by simp [results, Tryz.results205, go_sem, textT]) rfl ?_
   exact ⟨rfl, HB.out⟩
end Go.Proofs.YtmmepogjocfefaaGreat

namespace Go.Proofs.YtmmepogjocfefaaGreat
set_option linter.unusedVariables false
set_option linter.unusedSimpArgs false
open Go.RowKit

set_option maxRecDepth 100000 in
set_option maxHeartbeats 400000 in
theorem l02First_c (width : Nat) (A : Option Addr) (c lo hi : Nat) (l : List Int) (w : World) (hw : width ≤ 32) (hl : Wds 8 l) (hr : Rd w lo hi A (ws l)) :
  Calls Tryz.prog 185 #[.int .i64 width, .slice A 8 c] w fun e w' => e = .returned (.string (chainT width l)) ∧ Below w.heap.size w w' := by
 have hsz : (textT l).size = 32 := by rw [textT_size, hl.1]
 have hC : chainT width l = (textT l).extract 0 width := rfl
 have HC := Lib.hid hC
 have hsz2 : ((textT l).size : Int) = 32 := by omega
 have hT := fun W (h : Rd W lo hi A (ws l)) => specTextOf_c A c lo hi 8 l W h hl.1 (by omega) (by omega) hl.2
 have HT := Lib.hid hT
 have HR := Lib.hid hr
 have hw2 : (width : Int) ≤ 32 := by omega
 clear hl hC hT hr hsz
 generalize textT l = tx at *
 go_enter Tryz.func185, Tryz.ntmps185
 go_wp2_with fail
 refine (HT.out _ HR.out).mono ?_
 rintro e w1 ⟨rfl, hb1⟩
 have HB := Lib.hid hb1
 clear hb1
 go_wp2
 go_ret
 exact ⟨by rw [HC.out]; rfl, HB.out⟩
end Go.Proofs.YtmmepogjocfefaaGreat

namespace Go.Proofs.YtmmepogjocfefaaGreat
set_option linter.unusedVariables false
set_option linter.unusedSimpArgs false
open Go.RowKit

def lenOf : Value → Nat
 | .slice _ n _ => n
 | _ => 0
def padZ (j : Nat) : List UInt8 := 128 :: List.replicate j 0
theorem padZ_next (j : Nat) : padZ (j + 1) = padZ j ++ [0] := by rw [padZ, padZ, List.replicate_succ', List.cons_append]
def padB (n i : Nat) : UInt8 := UInt8.ofNat (n / 256 ^ i % 256)
def padE (n : Nat) : Nat → List UInt8
 | 0 => []
 | j + 1 => padE n j ++ [padB n (7 - j)]
theorem padE_8 (n : Nat) (h : n ≤ 4000) : padE n 8 = [0, 0, 0, 0, 0, 0, UInt8.ofNat (n / 256 % 256), UInt8.ofNat (n % 256)] := by
 have e : ∀ i, 65536 ≤ 256 ^ i → padB n i = 0 := fun i hi => by
  rw [padB, Nat.div_eq_of_lt (by omega)]; rfl
 show [padB n 7, padB n 6, padB n 5, padB n 4, padB n 3, padB n 2, padB n 1, padB n 0] = _
 rw [e 7 (by decide), e 6 (by decide), e 5 (by decide), e 4 (by decide), e 3 (by decide), e 2 (by decide)]
 simp [padB]
theorem wordText_small (n : Nat) (h : n ≤ 4000) : wordText n = ⟨#[0, 0, UInt8.ofNat (n / 256 % 256), UInt8.ofNat (n % 256)]⟩ := by
 have e1 : (n : Int) / 16777216 = 0 := by omega
 have e2 : (n : Int) / 65536 % 256 = 0 := by omega
 have e3 : (n : Int) / 256 % 256 = (n / 256 % 256 : Nat) := by omega
 have e4 : (n : Int) % 256 = (n % 256 : Nat) := by omega
 rw [wordText, e1, e2, e3, e4]
 rfl
theorem padE_all (n : Nat) (h : n ≤ 4000) (z : Nat) : ((⟨(padZ z ++ padE n 8).toArray⟩ : ByteArray)) = ⟨#[128]⟩ ++ zerosT z ++ wordText 0 ++ wordText n := by
 have hz : Lib.repeatL [0] z = List.replicate z (0 : UInt8) := by
  have := Lib.repeatL_replicate 0 1 z
  simpa using this
 have w0 : wordText 0 = ⟨#[0, 0, 0, 0]⟩ := rfl
 rw [padE_8 n h, w0, wordText_small n h, zerosT, hz, padZ]
 apply ByteArray.ext
 simp only [ByteArray.data_append]
 apply Array.toList_inj.1
 simp
set_option maxRecDepth 100000 in
set_option maxHeartbeats 400000 in
theorem specPadOf_c (n : Nat) (w : World) (hn : n ≤ 4000) : Calls Tryz.prog 184 #[.int .i64 n] w fun e w' => e = .returned (.tuple #[.string (padT n), .bool true]) ∧ Below w.heap.size w w' := by
 obtain ⟨z, hz⟩ : ∃ z, z = (119 - n % 64) % 64 := ⟨_, rfl⟩
 have hz2 : z < 64 := by omega
 have hrow : (w.alloc (.cells #[.int .u8 128] 5)).ownsRow w.heap.size 5 1 (.slice (some ⟨w.heap.size, 0, none⟩) 1 1) 1 (Lib.byteCells (padZ 0)) :=
  World.ownsRow_lit (base := w.heap.size) (e := 5) (size := 1) w #[.int .u8 128] 1 (Nat.le_refl _) (by unfold maxLen; omega) rfl
 have hbl : Below w.heap.size w (w.alloc (.cells #[.int .u8 128] 5)) := (Below.refl _ _).alloc (Nat.le_refl _) _
 have HROW := Lib.hid hrow
 have HBL := Lib.hid hbl
 have HZ := Lib.hid hz
 have hin : inR (n : Int) 0 4000 = true := inR_true.2 (by omega)
 have HIN := Lib.hid hin
 clear hrow hbl hz hin
 go_enter Tryz.func184, Tryz.ntmps184
 go_wp2_with fail
 refine (l01In_c n 0 4000 _).mono ?_
 rintro e w1 ⟨rfl, rfl⟩
 rw [HIN.out]
 go_wp2
 go_loopw [4] (fun v wr => ∃ (j : Nat) (A0 : Option Addr) (c0 : Nat), j ≤ z ∧ v = .slice A0 (1 + j) c0 ∧ wr.ownsRow w.heap.size 5 1 (.slice A0 (1 + j) c0) (1 + j) (Lib.byteCells (padZ j)) ∧ Below w.heap.size w wr) (fun v _ => 65 - lenOf v)
 case atStart => exact ⟨0, _, 1, Nat.zero_le _, rfl, HROW.out, HBL.out⟩
 case round =>
  obtain ⟨j, A0, c0, hj, rfl, how, hb⟩ := hrel
  have HOW := Lib.hid how
  have HB := Lib.hid hb
  have hzr : w.heap.size ≤ wr.heap.size := hb.size
  clear how hb
  obtain ⟨q, hq⟩ : ∃ q, q = 1 + j := ⟨_, rfl⟩
  obtain ⟨r, hr⟩ : ∃ r, r = (n + q + 8) % 64 := ⟨_, rfl⟩
  have E3 : ((n : Int) + q + 8).tmod 64 = r := by rw [Int.tmod_eq_emod_of_nonneg (by omega)]; omega
  have hqb : (q : Int) ≤ 64 := by omega
  rw [← hq] at HOW ⊢
  by_cases hlt : j < z
  ·have hr2 : (r : Int) ≠ 0 := by have := HZ.out; omega
   have HR := Lib.hid hr
   have HQ := Lib.hid hq
   clear hr hq
   go_wp2_with (at_builtin; refine appBy rfl _ _ rfl w.heap.size _ _ _ rfl (HOW.out.alloc _) _ 1 1 0 _ [(0 : UInt8)] rfl rfl (NewBox.rd (cs := Lib.byteCells [(0 : UInt8)]) (NewBox.new wr _ _)) (fun h => by cases h) (by omega) (by first | omega | (simp; done) | (simp; omega)) ?_)
   intro v2 w2 hown2 hg2
   have hon := grown_only (HOW.out.alloc _) hg2
   obtain ⟨A2, c2, rfl, _, _, _⟩ := ownsRow_slice hown2
   have HB2 : Hid (Below w.heap.size w w2) := below_only (HB.out.alloc hzr _) hon (Nat.le_refl _) (by simp; omega)
   rw [← bys_app, ← padZ_next] at hown2
   have HO2 := Lib.hid hown2
   clear hown2 hg2 hon HOW
   go_wp2
   go_roundw
   case rel =>
    have h := HQ.out
    exact ⟨j + 1, A2, c2, by omega, by rw [show 1 + (j + 1) = q + 1 by omega], by rw [show 1 + (j + 1) = q + 1 by omega]; exact HO2.out, HB2.out⟩
   case measure => show 65 - (q + 1) < 65 - q; omega
  ·obtain rfl : j = z := by omega
   obtain rfl : r = 0 := by have := HZ.out; omega
   have HQ := Lib.hid hq
   clear hr hq
   go_wp2
   go_loopw [4, 5] (fun v i wx => ∃ (p m : Nat) (A1 : Option Addr) (c1 : Nat), p ≤ 8 ∧ m = q + p ∧ i = .int .i64 (7 - (p : Int)) ∧ v = .slice A1 m c1 ∧ wx.ownsRow w.heap.size 5 1 (.slice A1 m c1) m (Lib.byteCells (padZ j ++ padE n p)) ∧ Below w.heap.size w wx) (fun _ i _ => (intOf i + 1).toNat)
   case atStart => exact ⟨0, q, _, _, Nat.zero_le _, rfl, rfl, rfl, by rw [padE, List.append_nil]; exact HOW.out, HB.out⟩
   case round =>
    clear HOW HB
    obtain ⟨p, m, A1, c1, hp, hm, rfl, rfl, how, hb⟩ := hrel
    have HOW := Lib.hid how
    have HB := Lib.hid hb
    have HM := Lib.hid hm
    have hzx := hb.size
    have hmb : (m : Int) ≤ 80 := by omega
    clear how hb hm
    by_cases hlp : p < 8
    ·obtain ⟨g, hg⟩ : ∃ g, g = 7 - p := ⟨_, rfl⟩
     have hgp : 7 - (p : Int) = (g : Int) := by omega
     rw [hgp]
     have hg7 : (g : Int) ≤ 7 := by omega
     have HG := Lib.hid hg
     have HGP := Lib.hid hgp
     clear hg hgp
     go_wp2
     go_loop [6, 7] (fun x y => ∃ u : Nat, u ≤ g ∧ y = .int .i64 u ∧ x = .int .i64 ((n / 256 ^ u : Nat) : Int)) (fun _ y => g - (intOf y).toNat)
     case atStart => exact ⟨0, Nat.zero_le _, rfl, by simp⟩
     case round =>
      obtain ⟨u, hu, rfl, rfl⟩ := hrel
      have hx : n / 256 ^ u ≤ 4000 := Nat.le_trans (Nat.div_le_self _ _) hn
      have hnx : n / 256 ^ (u + 1) = n / 256 ^ u / 256 := by rw [Nat.pow_succ, Nat.div_div_eq_div_mul]
      have hpb : (padB n u).toNat = n / 256 ^ u % 256 := by
       rw [padB, UInt8.toNat_ofNat']
       omega
      generalize n / 256 ^ u = X at *
      have E4 : (X : Int).tdiv 256 = (X / 256 : Nat) := by rw [Int.tdiv_eq_ediv_of_nonneg (by omega)]; omega
      have E5 : (X : Int).tmod 256 = ((padB n u).toNat : Int) := by rw [Int.tmod_eq_emod_of_nonneg (by omega), hpb]; omega
      have E6 := byte_lt (padB n u)
      have HNX := Lib.hid hnx
      clear hnx hpb
      by_cases hlu : u < g
      ·clear E5
       obtain ⟨Y, hY⟩ : ∃ Y, Y = X / 256 := ⟨_, rfl⟩
       rw [← hY] at E4
       have HY := Lib.hid hY
       have hY2 : (Y : Int) ≤ 4000 := by omega
       clear hY
       go_wp2
       go_round
       case rel => exact ⟨u + 1, by omega, by go_num, by rw [HNX.out, HY.out]⟩
       case measure => simp [intOf]; omega
      ·obtain rfl : u = g := by omega
       have HP : Hid (padE n (p + 1) = padE n p ++ [padB n u]) := by rw [Hid, HG.out]; rfl
       clear E4 HNX
       generalize padB n u = bt at *
       go_wp2_with (at_builtin; refine appBy rfl _ _ rfl w.heap.size _ _ _ rfl (HOW.out.alloc _) _ 1 1 0 _ [bt] rfl rfl (NewBox.rd (cs := Lib.byteCells [bt]) (NewBox.new wr _ _)) (fun h => by cases h) (by omega) (by first | omega | (simp; done) | (simp; omega)) ?_)
       intro v2 w2 hown2 hg2
       have hon := grown_only (HOW.out.alloc _) hg2
       obtain ⟨A2, c2, rfl, _, _, _⟩ := ownsRow_slice hown2
       have HB2 : Hid (Below w.heap.size w w2) := below_only (HB.out.alloc hzx _) hon (Nat.le_refl _) (by simp; omega)
       rw [← bys_app, List.append_assoc, ← HP.out] at hown2
       have HO2 := Lib.hid hown2
       clear hown2 hg2 hon HOW
       go_wp2
       go_roundw
       case rel =>
        have h1 := HGP.out
        have h2 := HM.out
        exact ⟨p + 1, m + 1, A2, c2, by omega, by omega, by rw [show (7 : Int) - ((p + 1 : Nat) : Int) = (u : Int) - 1 by omega], rfl, HO2.out, HB2.out⟩
       case measure => first | (simp [intOf]; done) | (simp [intOf]; omega)
    ·obtain rfl : p = 8 := by omega
     have hr := (Own.of_ownsRow HOW.out).rd
     have hml : (padZ j ++ padE n 8).length = m := by
      have h := HOW.out.1
      rwa [bys_len, Nat.mul_one] at h
     obtain ⟨b, off, rfl, _, _, _, hcs⟩ := hr (by rw [padZ]; simp [Lib.byteCells])
     have hcb := run_convert_bytes_back (P := Tryz.prog) wr 141 9 5 ⟨b, off, none⟩ c1 (padZ j ++ padE n 8) Tryz.underlying141 Tryz.underlying5 Tryz.underlying9 (fun i hi => by
      have h := hcs i (.int .u8 ((padZ j ++ padE n 8)[i].toNat : Int)) (by simp only [Lib.byteCells, List.getElem?_map, List.getElem?_eq_getElem hi, Option.map_some])
      rwa [Addr.add_lit])
     rw [hml, padE_all n hn j] at hcb
     have hP : padT n = ⟨#[128]⟩ ++ zerosT j ++ wordText 0 ++ wordText n := by rw [padT, ← HZ.out]
     rw [← hP] at hcb
     clear hr hcs hml hP
     go_wp2
     refine bodyPost_ret (v := .tuple #[.string (padT n), .bool true]) (by simp [results, Tryz.results184, go_sem]) rfl ?_
     exact ⟨rfl, HB.out⟩
end Go.Proofs.YtmmepogjocfefaaGreat

namespace Go.Proofs.YtmmepogjocfefaaGreat
set_option linter.unusedVariables false
set_option linter.unusedSimpArgs false
open Go.RowKit

set_option maxRecDepth 100000 in
set_option maxHeartbeats 400000 in
theorem specPadOf_no (n : Nat) (w : World) (hn : 4000 < n) : Calls Tryz.prog 184 #[.int .i64 n] w fun e w' => e = .returned (.tuple #[.string ⟨#[]⟩, .bool false]) ∧ Below w.heap.size w w' := by
 have hin : inR (n : Int) 0 4000 = false := inR_false.2 (.inr (by omega))
 have HIN := Lib.hid hin
 clear hin
 go_enter Tryz.func184, Tryz.ntmps184
 go_wp2_with fail
 refine (l01In_c n 0 4000 _).mono ?_
 rintro e w1 ⟨rfl, rfl⟩
 rw [HIN.out]
 go_wp2
 refine bodyPost_ret (v := .tuple #[.string ⟨#[]⟩, .bool false]) (by simp [results, Tryz.results184, go_sem]) rfl ?_
 exact ⟨rfl, Below.refl _ _⟩
end Go.Proofs.YtmmepogjocfefaaGreat


namespace Go.Proofs.YtmmepogjocfefaaGreat
set_option linter.unusedVariables false
set_option linter.unusedSimpArgs false
open Go.RowKit
theorem addW_all (s u : List Int) (h : u.length = 8) : (List.range 8).map (fun q => (u.getD q 0 + s.getD q 0) % 4294967296) = addW s u 8 := by
 obtain ⟨a, b, c, d, e, f, g, i, rfl⟩ := list8 h
 rfl
end Go.Proofs.YtmmepogjocfefaaGreat

namespace Go.Proofs.YtmmepogjocfefaaGreat
set_option linter.unusedVariables false
set_option linter.unusedSimpArgs false
open Go.RowKit

theorem row_form {w : World} {base size n : Nat} {e : TypeId} {v : Value} {xs : List Value} (h : w.ownsRow base e size v n xs) (hn : 0 < n) : ∃ g cap, v = .slice (some ⟨g, 0, none⟩) n cap := by
 rcases h.2 with ⟨_, h0⟩ | ⟨g, cap, _, hv, _⟩
 ·omega
 ·exact ⟨g, cap, hv⟩
theorem own_ne' {w : World} {base e size n B : Nat} {v : Value} {xs : List Value} (h : w.ownsRow base e size v n xs) (hB : B < base) : some B ≠ v.ownBlock := fun e1 => by
 have := (h.lt B e1.symm).1; omega
/-- where the reference's mixing stands: v in the row at block g -/
structure MixS (w : World) (g : Nat) (v : List Int) (wx : World) : Prop where
 below : Below w.heap.size w wx
 le : w.heap.size ≤ g
 v : Own wx g (g + 1) (some ⟨g, 0, none⟩) (ws v)
theorem MixS.set {w : World} {g : Nat} {v : List Int} {wx : World} (h : MixS w g v wx) {o : Nat} (ho : o < v.length) (x : Int) : MixS w g (v.set o x) (wx.setCell ⟨g, o, none⟩ (.int .u32 x)) := by
 refine ⟨h.below.setCell h.le _, h.le, ?_⟩
 have := h.v.set (j := o) (by rw [ws_len]; exact ho) (.int .u32 x)
 rwa [Nat.zero_add, ws_set] at this
theorem MixS.drew {w : World} {g : Nat} {v : List Int} {wx : World} (h : MixS w g v wx) : MixS w g v wx.drew := ⟨h.below.drew, h.le, h.v.drew⟩
theorem MixS.drewN {w : World} {g : Nat} {v : List Int} {wx : World} (h : MixS w g v wx) (n : Nat) : MixS w g v (wx.drewN n) := ⟨h.below.trans (Below.mono (below_drewN wx n) h.below.size), h.le, h.v.drewN n⟩
theorem MixS.wd {w : World} {g n : Nat} {v : List Int} {wx : World} (h : MixS w g v wx) (hl : Wds n v) {o : Nat} (ho : o < n) : wx.cell? ⟨g, o, none⟩ = some (.int .u32 (v.getD o 0)) ∧ wx.frozen? ⟨g, o, none⟩ = false := by
 have hol : o < v.length := by rw [hl.1]; exact ho
 obtain ⟨b, off, h1, _, _, _, h5, h6⟩ := h.v.at_ (j := o) (by rw [ws_len]; exact hol)
 cases h1
 refine ⟨?_, by have := h6 o; rwa [Nat.zero_add] at this⟩
 have := h5 o _ (ws_get (List.getElem?_eq_getElem hol))
 rw [Nat.zero_add] at this
 rw [this, List.getD_eq_getElem?_getD, List.getElem?_eq_getElem hol]; rfl

set_option maxRecDepth 100000 in
set_option maxHeartbeats 400000 in
theorem specMixIn_c (A B : Option Addr) (c c2 lo hi lo2 hi2 : Nat) (s b : List Int) (w : World) (hs : Wds 8 s) (hb : Wds 16 b) (hA : Rd w lo hi A (ws s)) (hB : Rd w lo2 hi2 B (ws b)) :
  Calls Tryz.prog 207 #[.slice A 8 c, .slice B 16 c2] w fun e w' => ∃ A' c', e = .returned (.tuple #[.slice A' 8 c', .bool true]) ∧ Below w.heap.size w w' ∧ Rd w' w.heap.size w'.heap.size A' (ws (mixAll1 s b)) := by
 obtain ⟨ba, oa, rfl, hba, hca⟩ := hA.at_ (j := 0) (by rw [ws_len, hs.1]; omega)
 obtain ⟨bb, ob, rfl, hbb, hcb⟩ := hB.at_ (j := 0) (by rw [ws_len, hb.1]; omega)
 have hrow := row_made w 204 0
 have hbl : Below w.heap.size w (w.alloc (.cells #[] 204)) := (Below.refl _ _).alloc (Nat.le_refl _) _
 have HRA := Lib.hid hA.base
 have HRB := Lib.hid hB.base
 have HS := Lib.hid hs
 have HBW := Lib.hid hb
 have HROW := Lib.hid hrow
 have HBL := Lib.hid hbl
 clear hA hB hs hb hrow hbl hca hcb
 go_enter Tryz.func207, Tryz.ntmps207
 go_wp2_with (at_builtin; refine appWd rfl _ _ rfl w.heap.size _ _ _ rfl HROW.out (some ⟨ba, oa, none⟩) 8 c 0 _ s rfl HS.out.1 (HRA.out.below HBL.out) (fun h => by cases h) (by omega) HBL.out.size ?_)
 intro v2 w2 hown2 hg2
 have hon := grown_only HROW.out hg2
 have HB2 := Lib.hid (below_only HBL.out hon (Nat.le_refl _) HBL.out.size)
 obtain ⟨g, cap, rfl⟩ := row_form hown2 (by omega)
 have hO := Own.of_ownsRow hown2
 have hgw := (hown2.lt g rfl).1
 have HM : Hid (MixS w g s w2) := ⟨HB2.out, hgw, hO.tight⟩
 clear hown2 hg2 hon hO
 go_wp2
 go_loopw [7] (fun i wx => ∃ r : Nat, r ≤ 12 ∧ i = .int .i64 r ∧ MixS w g (mixU b s r) wx) (fun i _ => 12 - (intOf i).toNat)
 case atStart => exact ⟨0, Nat.zero_le _, rfl, HM.out⟩
 case round =>
  clear HM
  obtain ⟨r, hr, rfl, hA⟩ := hrel
  have HV : Hid (Wds 8 (mixU b s r)) := mixU_w HS.out r
  by_cases hlt : r < 12
  ·have HA := Lib.hid hA
   clear hA
   go_wp2
   have hdr : decide ((r : Int) < 12) = true := decide_eq_true (by omega)
   simp only [hdr]
   clear hdr
   go_loopw [8] (fun i wx => ∃ k : Nat, k ≤ 8 ∧ i = .int .i64 k ∧ MixS w g (mixRow b (mixU b s r) r k) wx) (fun i _ => 8 - (intOf i).toNat)
   case atStart => exact ⟨0, Nat.zero_le _, rfl, HA.out⟩
   case round =>
    clear HA
    obtain ⟨k, hk, rfl, hA⟩ := hrel
    by_cases hlk : k < 8
    ·have hvw : Wds 8 (mixRow b (mixU b s r) r k) := mixRow_w HV.out r k hk
     have hnx : mixRow b (mixU b s r) r (k + 1) = mixB (mixA b (mixRow b (mixU b s r) r k) r k) r k := rfl
     generalize mixRow b (mixU b s r) r k = v at *
     have HNX := Lib.hid hnx
     clear hnx
     have hma : mixA b v r k = v.set k ((v.getD k 0 + (cst (8 * r + k) + bits .xor .u32 (v.getD ((k + 1) % 8) 0) (b.getD ((8 * r + 5 * k + r / 2) % 16) 0)) % 4294967296) % 4294967296) := rfl
     obtain ⟨m2, hm2⟩ : ∃ m, m = (k + 1) % 8 := ⟨_, rfl⟩
     obtain ⟨m3, hm3⟩ : ∃ m, m = (8 * r + 5 * k + r / 2) % 16 := ⟨_, rfl⟩
     rw [← hm2, ← hm3] at hma
     have p1 := (hA.wd hvw hlk).1
     have hf := (hA.wd hvw hlk).2
     have p2 := (hA.wd hvw (show m2 < 8 by omega)).1
     obtain ⟨b3, o3, e3, hz3, p3⟩ := (HRB.out.below hA.below).wd (k := m3) (by rw [HBW.out.1]; omega)
     cases e3
     have x1 := hvw.at_ hlk
     have x2 := hvw.at_ (show m2 < 8 by omega)
     have x3 := HBW.out.at_ (show m3 < 16 by omega)
     have e4 : b[m3]'(by rw [HBW.out.1]; omega) = b.getD m3 0 := by rw [List.getD_eq_getElem?_getD, List.getElem?_eq_getElem]; rfl
     rw [e4] at p3
     clear e4
     generalize v.getD k 0 = y1 at *
     generalize v.getD m2 0 = y2 at *
     generalize b.getD m3 0 = y3 at *
     have xx := xor_w x2 x3
     have E4 : ((k : Int) + 1).tmod 8 = m2 := by rw [Int.tmod_eq_emod_of_nonneg (by omega)]; omega
     have E7 : (r : Int).tdiv 2 = (r / 2 : Nat) := by rw [Int.tdiv_eq_ediv_of_nonneg (by omega)]; omega
     have E10 : (8 * (r : Int) + 5 * k + (r / 2 : Nat)).tmod 16 = m3 := by rw [Int.tmod_eq_emod_of_nonneg (by omega)]; omega
     have B1 : (k : Int) < 8 := by omega
     have B2 : (m2 : Int) < 8 := by omega
     have B3 : (m3 : Int) < 16 := by omega
     have B4 : (r / 2 : Nat) ≤ 6 := by omega
     have HA := Lib.hid hA
     have HVW := Lib.hid hvw
     have HMA := Lib.hid hma
     clear hA hvw hma hm2 hm3
     generalize (r / 2 : Nat) = rh at *
     go_wp2
     go_quiet (fail)
     go_wp2
     have HA0 := Lib.hid (HA.out.drewN nq)
     have p10 : (wr.drewN nq).cell? ⟨g, k, none⟩ = some (.int .u32 y1) := p1
     have hf0 : (wr.drewN nq).frozen? ⟨g, k, none⟩ = false := hf
     clear HA p1 p2 p3 hf hz3
     generalize wr.drewN nq = wy at *
     have xc := cst_w (8 * r + k)
     have HC : Calls Tryz.prog 216 #[.int .i64 (8 * (r : Int) + k)] wy.drew fun e w'' => e = .returned (.int .u32 (cst (8 * r + k))) ∧ w'' = wy.drew := (specConstant_c _ _).mono fun _ _ h => ⟨h.1, h.2.symm⟩
     have F1 : IntKind.i64.wrap (8 * (r : Int)) = 8 * r := by rw [IntKind.wrap_i64]; omega
     have F2 : IntKind.i64.wrap (8 * (r : Int) + k) = 8 * r + k := by rw [IntKind.wrap_i64]; omega
     generalize hcc : cst (8 * (r : Int) + k) = cc at *
     clear hcc
     refine wp_region_still_tail 15 (by kernel_rfl) (by kernel_rfl) ?_
     simp only [List.take_succ_cons, List.take_zero, List.drop_succ_cons, List.drop_zero]
     repeat still_step
     still_call HC
     repeat still_step
     refine wpStill_nil ?_
     change wpList _ _ _ _ _ wy.drew
     have HA2 := Lib.hid HA0.out.drew
     have hf2 : wy.drew.frozen? ⟨g, k, none⟩ = false := hf0
     have p12 : wy.drew.cell? ⟨g, k, none⟩ = some (.int .u32 y1) := p10
     clear HA0 HC p10 hf0
     generalize wy.drew = wq at *
     have hsum : ((y1 + cc) % 4294967296 + bits .xor .u32 y2 y3) % 4294967296 = (y1 + (cc + bits .xor .u32 y2 y3) % 4294967296) % 4294967296 := by omega
     have HSUM := Lib.hid hsum
     clear hsum
     go_wp2
     rw [HSUM.out]
     have hA : MixS w g (mixA b v r k) (wq.setCell ⟨g, k, none⟩ (.int .u32 ((y1 + (cc + bits .xor .u32 y2 y3) % 4294967296) % 4294967296))) := by
      rw [HMA.out]
      exact HA2.out.set (by rw [HVW.out.1]; exact hlk) _
     have hvw : Wds 8 (mixA b v r k) := mixA_w HVW.out r k
     clear HA2 hf2 p12
     generalize wq.setCell ⟨g, k, none⟩ (.int .u32 ((y1 + (cc + bits .xor .u32 y2 y3) % 4294967296) % 4294967296)) = wp at *
     clear HMA HVW
     have hmb : mixB (mixA b v r k) r k = (mixA b v r k).set k (bits .xor .u32 (rotN (5 + (k + 3 * r) % 23) ((mixA b v r k).getD k 0)) ((mixA b v r k).getD ((k + 3) % 8) 0)) := rfl
     obtain ⟨m5, hm5⟩ : ∃ m, m = (k + 3 * r) % 23 := ⟨_, rfl⟩
     obtain ⟨m6, hm6⟩ : ∃ m, m = (k + 3) % 8 := ⟨_, rfl⟩
     rw [← hm5, ← hm6] at hmb
     generalize mixA b v r k = v1 at *
     have p4 := (hA.wd hvw hlk).1
     have hf := (hA.wd hvw hlk).2
     have p6 := (hA.wd hvw (show m6 < 8 by omega)).1
     have x4 := hvw.at_ hlk
     generalize v1.getD k 0 = z1 at *
     generalize v1.getD m6 0 = z6 at *
     have HT : Calls Tryz.prog 217 #[.int .u32 z1, .int .i64 (5 + (m5 : Int))] wp.drew fun e w'' => e = .returned (.int .u32 (rotN (5 + m5) z1)) ∧ w'' = wp.drew := (specTurn_c z1 (5 + m5) _ x4 (by omega)).mono fun _ _ h => ⟨h.1, h.2.symm⟩
     have D1 : IntKind.i64.wrap (3 * (r : Int)) = 3 * r := by rw [IntKind.wrap_i64]; omega
     have D2 : IntKind.i64.wrap ((k : Int) + 3 * r) = k + 3 * r := by rw [IntKind.wrap_i64]; omega
     have D3 : ((k : Int) + 3 * r).tmod 23 = m5 := by rw [Int.tmod_eq_emod_of_nonneg (by omega)]; omega
     have D4 : IntKind.i64.wrap (5 + (m5 : Int)) = 5 + m5 := by rw [IntKind.wrap_i64]; omega
     have D5 : IntKind.i64.wrap ((k : Int) + 3) = k + 3 := by rw [IntKind.wrap_i64]; omega
     have D6 : ((k : Int) + 3).tmod 8 = m6 := by rw [Int.tmod_eq_emod_of_nonneg (by omega)]; omega
     have D7 : (m6 : Int) < 8 := by omega
     have HA := Lib.hid hA
     have HVW := Lib.hid hvw
     have HMB := Lib.hid hmb
     clear hA hvw hmb hm5 hm6
     generalize rotN (5 + m5) z1 = q1 at *
     refine wp_region_still_tail 21 (by kernel_rfl) (by kernel_rfl) ?_
     simp only [List.take_succ_cons, List.take_zero, List.drop_succ_cons, List.drop_zero]
     repeat still_step
     still_call HT
     repeat still_step
     refine wpStill_nil ?_
     change wpList _ _ _ _ _ wp.drew
     have HA2 := Lib.hid HA.out.drew
     have hf2 : wp.drew.frozen? ⟨g, k, none⟩ = false := hf
     have p12 : wp.drew.cell? ⟨g, k, none⟩ = some (.int .u32 z1) := p4
     clear HA HT p4 p6 hf
     generalize wp.drew = wq at *
     go_wp2
     go_round
     case rel =>
      refine ⟨k + 1, by omega, by go_num, ?_⟩
      rw [HNX.out, HMB.out]
      exact HA2.out.set (by rw [HVW.out.1]; exact hlk) _
     case measure => simp [intOf]; omega
    ·obtain rfl : k = 8 := by omega
     have HA := Lib.hid hA
     clear hA
     go_wp2
     go_round
     case rel => exact ⟨r + 1, by omega, by go_num, HA.out⟩
     case measure => simp [intOf]; omega
  ·obtain rfl : r = 12 := by omega
   have HA := Lib.hid hA
   clear hA
   have hrow0 := row_made wr 204 0
   have hbl0 : Below wr.heap.size wr (wr.alloc (.cells #[] 204)) := (Below.refl _ _).alloc (Nat.le_refl _) _
   have HR0 := Lib.hid hrow0
   have HA1 : Hid (MixS w g (mixU b s 12) (wr.alloc (.cells #[] 204))) := ⟨below_then HA.out.below hbl0 HA.out.below.size, HA.out.le, HA.out.v.below (hbl0.mono (Nat.le_refl _))⟩
   have HB0 := Lib.hid hbl0
   clear hrow0 hbl0
   go_wp2
   have h12 : ((12 : Nat) : Int) = 12 := rfl
   simp only [h12]
   clear h12
   have HU : Hid (Wds 8 (mixU b s 12)) := HV
   generalize hu : mixU b s 12 = u at *
   have HUE := Lib.hid hu
   have hwz := HA.out.below.size
   clear hu
   obtain ⟨wo, rfl⟩ : ∃ wo : World, wo = wr := ⟨_, rfl⟩
   go_loopw [10, 11] (fun v i wx => ∃ (k : Nat) (A0 : Option Addr) (c0 : Nat), k ≤ 8 ∧ i = .int .i64 k ∧ v = .slice A0 k c0 ∧ wx.ownsRow wo.heap.size 204 1 (.slice A0 k c0) k (ws ((List.range k).map fun q => (u.getD q 0 + s.getD q 0) % 4294967296)) ∧ MixS w g u wx ∧ wo.heap.size ≤ wx.heap.size) (fun _ i _ => 8 - (intOf i).toNat)
   case atStart => exact ⟨0, _, _, Nat.zero_le _, rfl, rfl, HR0.out, HA1.out, HB0.out.size⟩
   case round =>
    obtain ⟨k, A0, c0, hk, rfl, rfl, how, hx, hz⟩ := hrel
    by_cases hlk : k < 8
    ·have p1 := (hx.wd HU.out hlk).1
     obtain ⟨b3, o3, e3, hz3, p3⟩ := (HRA.out.below hx.below).wd (k := k) (by rw [HS.out.1]; omega)
     cases e3
     have B1 : (k : Int) < 8 := by omega
     have HOW := Lib.hid how
     have HX := Lib.hid hx
     clear how hx
     have hfp : oa + k = oa + k := rfl
     have hgo : g < wo.heap.size := by
      obtain ⟨b, off, h1, h2, h3, h4, _⟩ := HA.out.v.at_ (j := 0) (by rw [ws_len, HU.out.1]; omega)
      cases h1
      omega
     have hz8 : wo.heap.size ≤ wr.heap.size := hz
     have y1 := HS.out.at_ hlk
     have e4 : s[k]'(by rw [HS.out.1]; omega) = s.getD k 0 := by rw [List.getD_eq_getElem?_getD, List.getElem?_eq_getElem]; rfl
     rw [e4] at p3
     have hmr : Hid (ws ((List.range (k + 1)).map fun q => (u.getD q 0 + s.getD q 0) % 4294967296) = ws ((List.range k).map fun q => (u.getD q 0 + s.getD q 0) % 4294967296) ++ [.int .u32 ((s.getD k 0 + u.getD k 0) % 4294967296)]) := by
      rw [Hid, List.range_succ, List.map_append, ws_app, Int.add_comm (s.getD k 0)]; rfl
     clear e4 hfp
     generalize u.getD k 0 = y2 at *
     generalize s.getD k 0 = y3 at *
     obtain ⟨i0, hi0, hz0, hz1, hz2⟩ := info_parts info_word
     have hne1 := own_ne' HOW.out hgo
     have hne2 := own_ne' HOW.out (show ba < wo.heap.size by omega)
     generalize hrw : (ws ((List.range k).map fun q => (u.getD q 0 + s.getD q 0) % 4294967296)) = rw0 at *
     have HRW := Lib.hid hrw
     clear hrw
     go_wp2
     go_region_held3 (fun w' => w'.cell? ⟨g, k, none⟩ = some (.int .u32 y2) ∧ w'.cell? ⟨ba, oa + k, none⟩ = some (.int .u32 y3))
      (first
        | go_keep
        | (go_split_ands
           refine ⟨?_, ?_⟩
           ·(rw [hgrow.cell_far _ (by simp; omega) hne1]; assumption)
           ·(rw [hgrow.cell_far _ (by simp; omega) hne2]; assumption)))
      ((refine step_append_lies _ (by rfl) _ _ _ (by rfl) wo.heap.size 204 i0 _ 1 4 Tryz.underlying206 hi0 hz0 hz1 hz2 rfl (by omega) (.slice A0 k c0) k rw0 (by rfl) ((HOW.out.alloc _).drew)
         ⟨wr.heap.size, 0, none⟩ 1 1 [.int .u32 ((y3 + y2) % 4294967296)] (by rfl) (by rfl) (World.news_of_block (cs := #[.int .u32 ((y3 + y2) % 4294967296)]) (t := 204) (fr := (0, 0)) (heap_alloc_new wr _)) (by simp [Value.oneCell'])
         (by omega) (by unfold maxLen; omega) (by omega) (by simp; omega) (wr.heap.size + 1) (by simp) ?_; intro gg cap w1 hown1 hgrow hat hlt))
     have hon := grown_only ((HOW.out.alloc _).drew) hgrow
     rw [← hmr.out] at hown1
     have HO9 := Lib.hid hown1
     have hwo := HA.out.below.size
     have HX9 : Hid (MixS w g u w1 ∧ wo.heap.size ≤ w1.heap.size) := by
      refine ⟨⟨below_only ((HX.out.below.alloc (by omega) _).drew) hon hwo (by simp; omega), HX.out.le, ((HX.out.v.alloc _).drew).only hon (by omega)⟩, ?_⟩
      have := hon.size
      simp at this
      omega
     rename_i hHeld
     clear hown1 hgrow hat hon hHeld p1 p3 hmr HRW HOW HX hne1 hne2 hi0 hz0 hz1 hz2
     go_wp2
     go_roundw
     case rel => exact ⟨k + 1, _, _, by omega, by go_num, rfl, HO9.out, HX9.out.1, HX9.out.2⟩
     case measure => simp [intOf]; omega
    ·obtain rfl : k = 8 := by omega
     have hr := (Own.of_ownsRow how).rd
     have HB9 := Lib.hid hx.below
     go_wp2
     refine bodyPost_ret (v := .tuple #[.slice A0 8 c0, .bool true]) (by simp [results, Tryz.results207, go_sem]) rfl ?_
     refine ⟨A0, c0, rfl, HB9.out, ?_⟩
     rw [mixAll1, HUE.out, ← addW_all s u HU.out.1]
     exact hr.mono hwz (Nat.le_refl _) (Nat.le_refl _)
end Go.Proofs.YtmmepogjocfefaaGreat

namespace Go.Proofs.YtmmepogjocfefaaGreat
set_option linter.unusedVariables false
set_option linter.unusedSimpArgs false
open Go.RowKit

theorem blockAt_extract (t : ByteArray) (a : Nat) (h : a + 64 ≤ t.size) : blockAt (t.extract a (a + 64)) 0 = blockAt t a := by
 apply List.map_congr_left
 intro i hi
 rw [List.mem_range] at hi
 rw [wAt_extract t a (a + 64) (0 + 4 * i) (by omega) (by omega), Nat.zero_add]
set_option maxRecDepth 100000 in
set_option maxHeartbeats 400000 in
theorem l02Mixed_c (A : Option Addr) (c lo hi : Nat) (s : List Int) (t : ByteArray) (w : World) (hs : Wds 8 s) (ht : t.size ≤ 100000) (hA : Rd w lo hi A (ws s)) :
  Calls Tryz.prog 186 #[.slice A 8 c, .string t] w fun e w' => ∃ A' c', e = .returned (.slice A' 8 c') ∧ Below w.heap.size w w' ∧ Rd w' 0 w'.heap.size A' (ws (mixText s t (t.size / 64))) := by
 have HS := Lib.hid hs
 have HA := Lib.hid hA.base
 have ht2 : (t.size : Int) ≤ 100000 := by omega
 clear hs hA
 go_enter Tryz.func186, Tryz.ntmps186
 go_wp2
 go_loopw [0, 5] (fun v i wx => ∃ (k : Nat) (A0 : Option Addr) (c0 : Nat), 64 * k ≤ t.size ∧ i = .int .i64 (64 * k : Nat) ∧ v = .slice A0 8 c0 ∧ Below w.heap.size w wx ∧ Rd wx 0 wx.heap.size A0 (ws (mixText s t k))) (fun _ i _ => t.size - (intOf i).toNat)
 case atStart => exact ⟨0, A, c, by omega, rfl, rfl, Below.refl _ _, HA.out⟩
 case round =>
  obtain ⟨k, A0, c0, hk, rfl, rfl, hb, hx⟩ := hrel
  have HV : Hid (Wds 8 (mixText s t k)) := mixText_w HS.out t k
  have HMK : Hid (mixText s t (k + 1) = mixAll1 (mixText s t k) (blockAt t (64 * k))) := Lib.hid rfl
  have HB := Lib.hid hb
  have HX := Lib.hid hx
  obtain ⟨m, hm⟩ : ∃ m, m = 64 * k := ⟨_, rfl⟩
  rw [← hm] at HMK
  rw [← hm]
  have HM := Lib.hid hm
  have hk2 : m ≤ t.size := by omega
  clear hb hx hk
  by_cases h64 : m + 64 ≤ t.size
  ·have hkk : k + 1 ≤ t.size / 64 := by omega
   have hbe := blockAt_extract t m h64
   have hbw := blockAt_wds t m
   have hse : (t.extract m (m + 64)).size = 64 := by rw [ByteArray.size_extract]; omega
   have HW := fun W => specWordsOf_c (t.extract m (m + 64)) W hse
   rw [hbe] at HW
   have HW2 := Lib.hid HW
   have HBW := Lib.hid hbw
   have h64i : (m : Int) + 64 ≤ t.size := by omega
   generalize blockAt t m = bl at *
   clear hm HW hbe hbw hse
   go_wp2_with fail
   refine (HW2.out _).mono ?_
   rintro e w1 ⟨A1, c1, rfl, hb1, hr1⟩
   have HX1 := Lib.hid (HX.out.below hb1)
   have HR1 := Lib.hid hr1
   have HB1 := Lib.hid (below_then HB.out hb1 HB.out.size)
   clear hb1 hr1 HX HB
   go_wp2_with fail
   refine (specMixIn_c A0 A1 c0 c1 _ _ _ _ _ bl _ HV.out HBW.out HX1.out HR1.out).mono ?_
   rintro e w2 ⟨A2, c2, rfl, hb2, hr2⟩
   have HR2 := Lib.hid hr2
   have HB2 := Lib.hid (below_then HB1.out hb2 HB1.out.size)
   clear hb2 hr2 HX1 HB1
   go_wp2
   go_roundw
   case rel =>
    have := HM.out
    refine ⟨k + 1, A2, c2, by omega, ?_, rfl, HB2.out, ?_⟩
    ·rw [show 64 * (k + 1) = m + 64 by omega]; rfl
    ·rw [HMK.out]; exact HR2.out.base
   case measure => simp [intOf]; omega
  ·have hkk : k = t.size / 64 := by omega
   have h64i : ¬ (m : Int) + 64 ≤ t.size := by omega
   have HKK := Lib.hid hkk
   clear hm hkk
   go_wp2
   go_ret
   exact ⟨A0, ⟨c0, rfl⟩, HB.out, by rw [← HKK.out]; exact HX.out⟩
end Go.Proofs.YtmmepogjocfefaaGreat

namespace Go.Proofs.YtmmepogjocfefaaGreat
set_option linter.unusedVariables false
set_option linter.unusedSimpArgs false
open Go.RowKit

set_option maxRecDepth 100000 in
set_option maxHeartbeats 400000 in
theorem specDigest_c (width tag : Int) (t : ByteArray) (w : World) (ht : t.size ≤ maxLen) : Calls Tryz.prog 152 #[.int .i64 width, .int .i64 tag, .string t] w fun e w' => e = .returned (.tuple #[.string (digM width tag t), .bool (digOk width tag t)]) ∧ Below w.heap.size w w' := by
 unfold maxLen at ht
 have hbad : digOk width tag t = false → (.tuple #[.string (digM width tag t), .bool (digOk width tag t)] : Value) = .tuple #[.string ⟨#[]⟩, .bool false] := fun h => by rw [digM, h]; rfl
 have HBAD := Lib.hid hbad
 clear hbad
 go_enter Tryz.func152, Tryz.ntmps152
 go_wp2_with fail
 refine (specStartOf_c tag _).mono ?_
 rintro e w1 ⟨A1, n1, c1, rfl, hb1, hr1⟩
 have HB1 := Lib.hid hb1
 have HR1 := Lib.hid hr1
 clear hb1 hr1
 rcases (show t.size ≤ 4000 ∨ 4000 < t.size by omega) with h3 | h3
 ·go_wp2_with fail
  refine (specPadOf_c t.size _ h3).mono ?_
  rintro e w2 ⟨rfl, hb2⟩
  have HB2 := Lib.hid (below_then HB1.out hb2 HB1.out.size)
  have HR2 : Hid (inR tag 0 255 = true → n1 = 8 ∧ Rd w2 0 w2.heap.size A1 (ws (firstW tag))) := fun h => ⟨(HR1.out h).1, ((HR1.out h).2.below hb2).base⟩
  clear hb2 HB1 HR1
  go_wp2_with fail
  refine (l02Width_c width _).mono ?_
  rintro e w3 ⟨rfl, rfl⟩
  rcases hq1 : inR width 1 32 with _ | _
  ·have hd : digOk width tag t = false := by rw [digOk, hq1]; rfl
   have HD := Lib.hid (HBAD.out hd)
   go_wp2
   refine bodyPost_ret (v := .tuple #[.string ⟨#[]⟩, .bool false]) (by simp [results, Tryz.results152, go_sem]) rfl ?_
   exact ⟨by rw [HD.out], HB2.out⟩
  ·have HQ1 := Lib.hid hq1
   clear hq1
   rcases hq2 : inR tag 0 255 with _ | _
   ·have hd : digOk width tag t = false := by rw [digOk, HQ1.out, hq2]; rfl
    have HD := Lib.hid (HBAD.out hd)
    go_wp2
    refine bodyPost_ret (v := .tuple #[.string ⟨#[]⟩, .bool false]) (by simp [results, Tryz.results152, go_sem]) rfl ?_
    exact ⟨by rw [HD.out], HB2.out⟩
   ·obtain ⟨hn8, hR⟩ := HR2.out hq2
    subst hn8
    have HQ2 := Lib.hid hq2
    clear hq2 HR2
    have hd : digOk width tag t = true := by rw [digOk, HQ1.out, HQ2.out, decide_eq_true h3]; rfl
    obtain ⟨wi, rfl⟩ : ∃ n : Nat, width = n := ⟨width.toNat, by have := inR_true.1 HQ1.out; omega⟩
    have hr := inR_true.1 HQ2.out
    have hwi : wi ≤ 32 := by have := inR_true.1 HQ1.out; omega
    have hm : digM wi tag t = digT wi tag t := by rw [digM, hd]; rfl
    have hv : digT wi tag t = chainT wi (mixText (firstW tag) (t ++ padT t.size) ((t ++ padT t.size).size / 64)) := by rw [digT, Int.toNat_natCast]
    have HV := Lib.hid (hm.trans hv)
    have HD := Lib.hid hd
    have HRR := Lib.hid hR
    clear hd hm hv HBAD hR
    have hpz : (padT t.size).size ≤ 80 := by rw [padT_size]; omega
    have hts : (t ++ padT t.size).size ≤ 5000 := by rw [ByteArray.size_append]; omega
    have hca := fun (W : World) => run_string_add_sum (P := Tryz.prog) W t (padT t.size) (by omega)
    have hMX := fun W h => l02Mixed_c A1 c1 0 w2.heap.size (firstW tag) (t ++ padT t.size) W (firstW_wds tag) (by omega) h
    have hmw := mixText_w (firstW_wds tag) (t ++ padT t.size) ((t ++ padT t.size).size / 64)
    have HMW := Lib.hid hmw
    have HMX := Lib.hid hMX
    clear hmw hMX
    generalize padT t.size = pd at *
    generalize t ++ pd = tt at *
    go_wp2_with fail
    refine (HMX.out _ HRR.out).mono ?_
    rintro e w4 ⟨A4, c4, rfl, hb4, hr4⟩
    have HB4 := Lib.hid (below_then HB2.out hb4 HB2.out.size)
    have HR4 := Lib.hid hr4
    clear hb4 HB2 HMX HRR hr4
    go_wp2_with fail
    refine (l02First_c wi A4 c4 _ _ _ _ hwi HMW.out HR4.out).mono ?_
    rintro e w5 ⟨rfl, hb5⟩
    have HB5 := Lib.hid (below_then HB4.out hb5 HB4.out.size)
    clear hb5 HB4
    rw [← HV.out]
    go_wp2
    refine bodyPost_ret (v := .tuple #[.string (digM wi tag t), .bool true]) (by simp [results, Tryz.results152, go_sem]) rfl ?_
    exact ⟨by rw [HD.out], HB5.out⟩
 ·have hd : digOk width tag t = false := by rw [digOk, decide_eq_false (by omega), Bool.and_false]
  have HD := Lib.hid (HBAD.out hd)
  go_wp2_with fail
  refine (specPadOf_no t.size _ h3).mono ?_
  rintro e w2 ⟨rfl, hb2⟩
  have HB2 := Lib.hid (below_then HB1.out hb2 HB1.out.size)
  clear hb2 HB1 HR1
  go_wp2_with fail
  refine (l02Width_c width _).mono ?_
  rintro e w3 ⟨rfl, rfl⟩
  generalize inR width 1 32 = q1 at *
  generalize inR tag 0 255 = q2 at *
  cases q1 <;> cases q2 <;> go_wp2 <;> (refine bodyPost_ret (v := .tuple #[.string ⟨#[]⟩, .bool false]) (by simp [results, Tryz.results152, go_sem]) rfl ?_) <;> exact ⟨by rw [HD.out], HB2.out⟩
end Go.Proofs.YtmmepogjocfefaaGreat

namespace Go.Proofs.YtmmepogjocfefaaGreat
set_option linter.unusedVariables false
set_option linter.unusedSimpArgs false
open Go.RowKit

def octB (n : Int) : ByteArray := strOfNums [n % 256]
theorem octB_size (n : Int) : (octB n).size = 1 := rfl
def pairB (n : Int) : ByteArray := octB (n / 256) ++ octB n
theorem pairB_size (n : Int) : (pairB n).size = 2 := rfl
def divN (n : Int) : Nat → Int
 | 0 => n
 | j + 1 => divN n j / 256
def numUp (n : Int) : Nat → ByteArray
 | 0 => ByteArray.empty
 | j + 1 => octB (divN n j) ++ numUp n j
theorem numUp_size (n : Int) : ∀ j, (numUp n j).size = j
 | 0 => rfl
 | j + 1 => by rw [numUp, ByteArray.size_append, octB_size, numUp_size n j]; omega
theorem divN_bd {n : Int} (h0 : 0 ≤ n) (h : n ≤ 4611686018427387904) : ∀ j, 0 ≤ divN n j ∧ divN n j ≤ 4611686018427387904
 | 0 => ⟨h0, h⟩
 | j + 1 => by have := divN_bd h0 h j; rw [divN]; omega
theorem numUp_1 (n : Int) : numUp n 1 = octB n := ByteArray.append_empty
theorem numUp_2 (n : Int) : numUp n 2 = pairB n := by
 show octB (n / 256) ++ (octB n ++ ByteArray.empty) = _
 rw [ByteArray.append_empty]; rfl
def shortB (t : ByteArray) : ByteArray := octB t.size ++ t

set_option maxRecDepth 100000 in
set_option maxHeartbeats 400000 in
theorem octet_c (n : Int) (w : World) (h0 : 0 ≤ n) (h : n ≤ 4611686018427387904) : Calls Tryz.prog 198 #[.int .i64 n] w fun e w' => e = .returned (.string (octB n)) ∧ Below w.heap.size w w' := by
 have hc := conv_1 (P := Tryz.prog) 141 5 9 rfl rfl rfl w (n % 256)
 go_enter Tryz.func198, Tryz.ntmps198
 go_wp2
 go_ret
 exact ⟨rfl, (Below.refl _ _).alloc (Nat.le_refl _) _⟩
set_option maxRecDepth 100000 in
set_option maxHeartbeats 400000 in
theorem pair_c (n : Int) (w : World) (h0 : 0 ≤ n) (h : n ≤ 100000000) : Calls Tryz.prog 179 #[.int .i64 n] w fun e w' => e = .returned (.string (pairB n)) ∧ Below w.heap.size w w' := by
 have hP : pairB n = octB (n / 256) ++ octB n := rfl
 have HP := Lib.hid hP
 clear hP
 have h1 := octB_size (n / 256)
 have h2 := octB_size n
 have hs := fun W => run_string_add_sum (P := Tryz.prog) W (octB (n / 256)) (octB n) (by omega)
 obtain ⟨m, hm⟩ : ∃ m, m = n / 256 := ⟨_, rfl⟩
 have c1 := fun W => octet_c m W (by omega) (by omega)
 have c2 := fun W => octet_c n W (by omega) (by omega)
 have H1 := Lib.hid c1
 have H2 := Lib.hid c2
 rw [← hm] at hs
 have HM := Lib.hid hm
 clear c1 c2 h1 h2
 generalize ho1 : octB m = o1 at *
 generalize ho2 : octB n = o2 at *
 have HO := Lib.hid ho1
 have HO2 := Lib.hid ho2
 clear ho1 ho2 hm
 go_enter Tryz.func179, Tryz.ntmps179
 go_wp2_with fail
 rw [← HM.out]
 refine (H1.out _).mono ?_
 rintro e w1 ⟨rfl, hb1⟩
 have HB1 := Lib.hid hb1
 clear hb1
 go_wp2_with fail
 refine (H2.out _).mono ?_
 rintro e w2 ⟨rfl, hb2⟩
 have HB2 := Lib.hid (below_then HB1.out hb2 HB1.out.size)
 clear hb2 HB1
 go_wp2
 go_ret
 exact ⟨by rw [HP.out, ← HM.out, HO.out]; rfl, HB2.out⟩
set_option maxRecDepth 100000 in
set_option maxHeartbeats 400000 in
theorem short_c (t : ByteArray) (w : World) (h : t.size ≤ 100000000) : Calls Tryz.prog 178 #[.string t] w fun e w' => e = .returned (.string (shortB t)) ∧ Below w.heap.size w w' := by
 have h1 := octB_size t.size
 have hP : shortB t = octB t.size ++ t := rfl
 have HP := Lib.hid hP
 have hs := fun W => run_string_add_sum (P := Tryz.prog) W (octB t.size) t (by omega)
 have c1 := fun W => octet_c t.size W (by omega) (by omega)
 have H1 := Lib.hid c1
 clear c1 h1 hP
 generalize octB t.size = o1 at *
 go_enter Tryz.func178, Tryz.ntmps178
 go_wp2_with fail
 refine (H1.out _).mono ?_
 rintro e w1 ⟨rfl, hb1⟩
 have HB1 := Lib.hid hb1
 clear hb1
 go_wp2
 go_ret
 exact ⟨by rw [HP.out]; rfl, HB1.out⟩
set_option maxRecDepth 100000 in
set_option maxHeartbeats 400000 in
theorem l03Number_c (n : Int) (k : Nat) (w : World) (h0 : 0 ≤ n) (h : n ≤ 4611686018427387904) (hk : k ≤ 8) : Calls Tryz.prog 176 #[.int .i64 n, .int .i64 k] w fun e w' => e = .returned (.string (numUp n k)) ∧ Below w.heap.size w w' := by
 go_enter Tryz.func176, Tryz.ntmps176
 go_wp2
 go_loopw [0, 5, 6] (fun x s i wx => ∃ j : Nat, j ≤ k ∧ i = .int .i64 j ∧ x = .int .i64 (divN n j) ∧ s = .string (numUp n j) ∧ Below w.heap.size w wx) (fun _ _ i _ => k - (intOf i).toNat)
 case atStart => exact ⟨0, Nat.zero_le _, rfl, rfl, rfl, Below.refl _ _⟩
 case round =>
  obtain ⟨j, hj, rfl, rfl, rfl, hb⟩ := hrel
  have HB := Lib.hid hb
  have hz := hb.size
  clear hb
  by_cases hlt : j < k
  ·obtain ⟨d0, d1⟩ := divN_bd h0 h j
   have hD : divN n (j + 1) = divN n j / 256 := rfl
   have hN : numUp n (j + 1) = octB (divN n j) ++ numUp n j := rfl
   have hns := numUp_size n j
   have HD := Lib.hid hD
   have HN := Lib.hid hN
   clear hD hN
   generalize divN n j = d at *
   generalize numUp n j = s at *
   have hoct : octB d = strOfNums [d % 256] := rfl
   have hc := fun W : World => conv_1 (P := Tryz.prog) 141 5 9 rfl rfl rfl W (d % 256)
   have hos : (strOfNums [d % 256]).size = 1 := rfl
   have hsum := fun W : World => run_string_add_sum (P := Tryz.prog) W (strOfNums [d % 256]) s (by omega)
   have HO := Lib.hid hoct
   have E1 : d.tmod 256 = d % 256 := Int.tmod_eq_emod_of_nonneg d0
   have E2 : d.tdiv 256 = d / 256 := Int.tdiv_eq_ediv_of_nonneg d0
   clear hns hos hoct
   go_wp2
   go_roundw
   case rel => exact ⟨j + 1, by omega, by go_num, by rw [HD.out], by rw [HN.out, HO.out], HB.out.alloc hz _⟩
   case measure => simp [intOf]; omega
  ·obtain rfl : j = k := by omega
   go_wp2
   go_ret
   exact ⟨rfl, HB.out⟩
set_option maxRecDepth 100000 in
set_option maxHeartbeats 400000 in
theorem l03Short_c (t : ByteArray) (w : World) (h : t.size ≤ 100000000) : Calls Tryz.prog 175 #[.string t] w fun e w' => e = .returned (.string (shortB t)) ∧ Below w.heap.size w w' := by
 have h1 := octB_size t.size
 have hP : shortB t = octB t.size ++ t := rfl
 have HP := Lib.hid hP
 have hs := fun W => run_string_add_sum (P := Tryz.prog) W (octB t.size) t (by omega)
 have c1 := fun W => l03Number_c t.size 1 W (by omega) (by omega) (by omega)
 simp only [numUp_1] at c1
 have H1 := Lib.hid c1
 clear c1 h1 hP
 generalize octB t.size = o1 at *
 go_enter Tryz.func175, Tryz.ntmps175
 go_wp2_with fail
 refine (H1.out _).mono ?_
 rintro e w1 ⟨rfl, hb1⟩
 have HB1 := Lib.hid hb1
 clear hb1
 go_wp2
 go_ret
 exact ⟨by rw [HP.out]; rfl, HB1.out⟩
end Go.Proofs.YtmmepogjocfefaaGreat

namespace Go.Proofs.YtmmepogjocfefaaGreat
set_option linter.unusedVariables false
set_option linter.unusedSimpArgs false
open Go.RowKit

def nodeT (width : Int) (a b : ByteArray) : ByteArray := digM width 1 (a ++ b)
def emptyT (width : Int) : ByteArray := digM width 5 ByteArray.empty
theorem digM_size {width tag : Int} {t : ByteArray} (h : digOk width tag t = true) : (digM width tag t).size = width.toNat := by
 have h1 : inR width 1 32 = true := by
  rw [digOk, Bool.and_eq_true, Bool.and_eq_true] at h; exact h.1.1
 have h2 := inR_true.1 h1
 rw [digM, if_pos h, digT, chainT, ByteArray.size_extract, textT_size, (mixText_w (firstW_wds tag) _ _).1]; omega
theorem digM_le (width tag : Int) (t : ByteArray) : (digM width tag t).size ≤ 32 := by
 by_cases h : digOk width tag t = true
 ·have h1 : inR width 1 32 = true := by
   rw [digOk, Bool.and_eq_true, Bool.and_eq_true] at h; exact h.1.1
  have h2 := inR_true.1 h1
  rw [digM_size h]; omega
 ·rw [digM, if_neg h]; exact Nat.zero_le _
theorem digOk_empty (width : Int) : digOk width 5 ByteArray.empty = inR width 1 32 := by
 rw [digOk]; simp [inR]
theorem digOk_node {width : Int} {a b : ByteArray} (hw : inR width 1 32 = true) (ha : (a.size : Int) = width) (hb : (b.size : Int) = width) : digOk width 1 (a ++ b) = true := by
 have h2 := inR_true.1 hw
 have h3 : (a ++ b).size ≤ 4000 := by rw [ByteArray.size_append]; omega
 rw [digOk, hw, decide_eq_true h3]; rfl
theorem nodeT_size {width : Int} {a b : ByteArray} (hw : inR width 1 32 = true) (ha : (a.size : Int) = width) (hb : (b.size : Int) = width) : ((nodeT width a b).size : Int) = width := by
 have h2 := inR_true.1 hw
 rw [nodeT, digM_size (digOk_node hw ha hb)]; omega
theorem emptyT_size {width : Int} (hw : inR width 1 32 = true) : ((emptyT width).size : Int) = width := by
 have h2 := inR_true.1 hw
 rw [emptyT, digM_size (by rw [digOk_empty, hw])]; omega
theorem emptyT_no {width : Int} (hw : inR width 1 32 = false) : emptyT width = ⟨#[]⟩ := by
 rw [emptyT, digM, digOk_empty, hw]; rfl
/-- a frame of a text -/
def frameB (t : ByteArray) : ByteArray := pairB t.size ++ digM 4 4 t ++ t
def frameOk (t : ByteArray) : Bool := inR t.size 1 1000
def frameM (t : ByteArray) : ByteArray := if frameOk t then frameB t else ByteArray.empty

set_option maxRecDepth 100000 in
set_option maxHeartbeats 400000 in
theorem node_c (width : Int) (a b : ByteArray) (w : World) (ha : a.size ≤ 100000000) (hb : b.size ≤ 100000000) : Calls Tryz.prog 174 #[.int .i64 width, .string a, .string b] w fun e w' => e = .returned (.string (nodeT width a b)) ∧ Below w.heap.size w w' := by
 have hs := fun W => run_string_add_sum (P := Tryz.prog) W a b (by omega)
 have hz : (a ++ b).size ≤ maxLen := by unfold maxLen; rw [ByteArray.size_append]; omega
 have hd := fun W => implDigest_c width 1 (a ++ b) W hz
 have HD := Lib.hid hd
 have hn : nodeT width a b = digM width 1 (a ++ b) := rfl
 rw [← hn] at HD
 clear hd hz hn
 generalize nodeT width a b = nd at *
 go_enter Tryz.func174, Tryz.ntmps174
 go_wp2_with fail
 refine (HD.out _).mono ?_
 rintro e w1 ⟨rfl, hb1⟩
 have HB1 := Lib.hid hb1
 clear hb1
 go_wp2
 go_ret
 exact ⟨rfl, HB1.out⟩
set_option maxRecDepth 100000 in
set_option maxHeartbeats 400000 in
theorem specNodeHash_c (width : Int) (a b : ByteArray) (w : World) (hw : inR width 1 32 = true) (ha : (a.size : Int) = width) (hb : (b.size : Int) = width) : Calls Tryz.prog 113 #[.int .i64 width, .string a, .string b] w fun e w' => e = .returned (.tuple #[.string (nodeT width a b), .bool true]) ∧ Below w.heap.size w w' := by
 have h2 := inR_true.1 hw
 have hs := fun W => run_string_add_sum (P := Tryz.prog) W a b (by omega)
 have hz : (a ++ b).size ≤ maxLen := by unfold maxLen; rw [ByteArray.size_append]; omega
 have hd := fun W => specDigest_c width 1 (a ++ b) W hz
 rw [digOk_node hw ha hb] at hd
 have HD := Lib.hid hd
 have hn : nodeT width a b = digM width 1 (a ++ b) := rfl
 rw [← hn] at HD
 have HQ := Lib.hid hw
 have hna : (a.size : Int) = width := ha
 clear hd hz hn hw
 subst hna
 generalize nodeT _ a b = nd at *
 go_enter Tryz.func113, Tryz.ntmps113
 go_wp2_with fail
 refine (l02Width_c _ _).mono ?_
 rintro e w1 ⟨rfl, rfl⟩
 rw [HQ.out]
 go_wp2_with fail
 refine (HD.out _).mono ?_
 rintro e w1 ⟨rfl, hb1⟩
 have HB1 := Lib.hid hb1
 clear hb1
 go_wp2
 refine bodyPost_ret (v := .tuple #[.string nd, .bool true]) (by simp [results, Tryz.results113, go_sem]) rfl ?_
 exact ⟨rfl, HB1.out⟩
set_option maxRecDepth 100000 in
set_option maxHeartbeats 400000 in
theorem implEmptyRoot_c (width : Int) (w : World) : Calls Tryz.prog 197 #[.int .i64 width] w fun e w' => e = .returned (.tuple #[.string (emptyT width), .bool (inR width 1 32)]) ∧ Below w.heap.size w w' := by
 have hd := fun W => implDigest_c width 5 ⟨#[]⟩ W (by unfold maxLen; exact Nat.zero_le _)
 have hn : digM width 5 ⟨#[]⟩ = emptyT width := rfl
 have hk : digOk width 5 ⟨#[]⟩ = inR width 1 32 := digOk_empty width
 rw [hn, hk] at hd
 have HD := Lib.hid hd
 clear hd hn hk
 generalize emptyT width = em at *
 generalize inR width 1 32 = q at *
 go_enter Tryz.func197, Tryz.ntmps197
 go_wp2_with fail
 refine (HD.out _).mono ?_
 rintro e w1 ⟨rfl, hb1⟩
 have HB1 := Lib.hid hb1
 clear hb1
 go_wp2
 refine bodyPost_ret (v := .tuple #[.string em, .bool q]) (by simp [results, Tryz.results197, go_sem]) rfl ?_
 exact ⟨rfl, HB1.out⟩
set_option maxRecDepth 100000 in
set_option maxHeartbeats 400000 in
theorem specEmptyRoot_c (width : Int) (w : World) : Calls Tryz.prog 103 #[.int .i64 width] w fun e w' => e = .returned (.tuple #[.string (emptyT width), .bool (inR width 1 32)]) ∧ Below w.heap.size w w' := by
 have hd := fun W => specDigest_c width 5 ⟨#[]⟩ W (by unfold maxLen; exact Nat.zero_le _)
 have hn : digM width 5 ⟨#[]⟩ = emptyT width := rfl
 have hk : digOk width 5 ⟨#[]⟩ = inR width 1 32 := digOk_empty width
 rw [hn, hk] at hd
 have HD := Lib.hid hd
 clear hd hn hk
 generalize emptyT width = em at *
 generalize inR width 1 32 = q at *
 go_enter Tryz.func103, Tryz.ntmps103
 go_wp2_with fail
 refine (HD.out _).mono ?_
 rintro e w1 ⟨rfl, hb1⟩
 have HB1 := Lib.hid hb1
 clear hb1
 go_wp2
 refine bodyPost_ret (v := .tuple #[.string em, .bool q]) (by simp [results, Tryz.results103, go_sem]) rfl ?_
 exact ⟨rfl, HB1.out⟩
set_option maxRecDepth 100000 in
set_option maxHeartbeats 400000 in
theorem emptyRoot_c (width : Int) (w : World) : Calls Tryz.prog 173 #[.int .i64 width] w fun e w' => e = .returned (.string (emptyT width)) ∧ Below w.heap.size w w' := by
 have HC := Lib.hid (fun W => implEmptyRoot_c width W)
 generalize emptyT width = em at *
 generalize inR width 1 32 = q at *
 go_enter Tryz.func173, Tryz.ntmps173
 go_wp2_with fail
 refine (HC.out _).mono ?_
 rintro e w1 ⟨rfl, hb1⟩
 have HB1 := Lib.hid hb1
 clear hb1
 go_wp2
 go_ret
 exact ⟨rfl, HB1.out⟩
set_option maxRecDepth 100000 in
set_option maxHeartbeats 400000 in
theorem implFrame_c (t : ByteArray) (w : World) (ht : t.size ≤ 1048576) : Calls Tryz.prog 148 #[.string t] w fun e w' => e = .returned (.tuple #[.string (frameM t), .bool (frameOk t)]) ∧ Below w.heap.size w w' := by
 have HR := Lib.hid (fun W => inRange_c (t.size : Nat) 1 1000 W)
 have HO : Hid (frameOk t = inR t.size 1 1000) := Lib.hid rfl
 rcases hq : inR (t.size : Nat) 1 1000 with _ | _
 ·have hm : Hid (frameM t = ⟨#[]⟩) := by rw [Hid, frameM, frameOk, hq]; rfl
  rw [hq] at HO HR
  clear hq
  go_enter Tryz.func148, Tryz.ntmps148
  go_wp2_with fail
  refine (HR.out _).mono ?_
  rintro e w1 ⟨rfl, rfl⟩
  go_wp2
  refine bodyPost_ret (v := .tuple #[.string ⟨#[]⟩, .bool false]) (by simp [results, Tryz.results148, go_sem]) rfl ?_
  exact ⟨by rw [hm.out, HO.out], Below.refl _ _⟩
 ·have hsz := inR_true.1 hq
  have hm : Hid (frameM t = pairB t.size ++ digM 4 4 t ++ t) := by rw [Hid, frameM, frameOk, hq]; rfl
  rw [hq] at HO HR
  have hd := fun W => implDigest_c 4 4 t W (by unfold maxLen; omega)
  have hp := fun W => pair_c t.size W (by omega) (by omega)
  try rw [numUp_2] at hp
  try have hp := fun W => hp W (by omega)
  have HD := Lib.hid hd
  have HP := Lib.hid hp
  have hz1 := digM_le 4 4 t
  have hz2 := pairB_size t.size
  clear hd hp hq
  generalize digM 4 4 t = dg at *
  generalize pairB t.size = pr at *
  have hs1 := fun W => run_string_add_sum (P := Tryz.prog) W pr dg (by omega)
  have hz3 : (pr ++ dg).size ≤ 40 := by rw [ByteArray.size_append]; omega
  obtain ⟨pd, hpd⟩ : ∃ x, x = pr ++ dg := ⟨_, rfl⟩
  rw [← hpd] at hs1 hz3
  have hs2 := fun W => run_string_add_sum (P := Tryz.prog) W pd t (by omega)
  have HPD := Lib.hid hpd
  clear hpd
  go_enter Tryz.func148, Tryz.ntmps148
  go_wp2_with fail
  refine (HR.out _).mono ?_
  rintro e w1 ⟨rfl, rfl⟩
  go_wp2_with fail
  refine (HD.out _).mono ?_
  rintro e w1 ⟨rfl, hb1⟩
  have HB1 := Lib.hid hb1
  clear hb1
  generalize digOk 4 4 t = q4 at *
  go_wp2_with fail
  refine (HP.out _).mono ?_
  rintro e w2 ⟨rfl, hb2⟩
  have HB2 := Lib.hid (below_then HB1.out hb2 HB1.out.size)
  clear hb2 HB1
  go_wp2
  refine bodyPost_ret (v := .tuple #[.string (pd ++ t), .bool true]) (by simp [results, Tryz.results148, go_sem]) rfl ?_
  exact ⟨by rw [hm.out, HO.out, HPD.out], HB2.out⟩
set_option maxRecDepth 100000 in
set_option maxHeartbeats 400000 in
theorem specFrame_c (t : ByteArray) (w : World) (ht : t.size ≤ 1048576) : Calls Tryz.prog 177 #[.string t] w fun e w' => e = .returned (.tuple #[.string (frameM t), .bool (frameOk t)]) ∧ Below w.heap.size w w' := by
 have HR := Lib.hid (fun W => l01In_c (t.size : Nat) 1 1000 W)
 have HO : Hid (frameOk t = inR t.size 1 1000) := Lib.hid rfl
 rcases hq : inR (t.size : Nat) 1 1000 with _ | _
 ·have hm : Hid (frameM t = ⟨#[]⟩) := by rw [Hid, frameM, frameOk, hq]; rfl
  rw [hq] at HO HR
  clear hq
  go_enter Tryz.func177, Tryz.ntmps177
  go_wp2_with fail
  refine (HR.out _).mono ?_
  rintro e w1 ⟨rfl, rfl⟩
  go_wp2
  refine bodyPost_ret (v := .tuple #[.string ⟨#[]⟩, .bool false]) (by simp [results, Tryz.results177, go_sem]) rfl ?_
  exact ⟨by rw [hm.out, HO.out], Below.refl _ _⟩
 ·have hsz := inR_true.1 hq
  have hm : Hid (frameM t = pairB t.size ++ digM 4 4 t ++ t) := by rw [Hid, frameM, frameOk, hq]; rfl
  rw [hq] at HO HR
  have hd := fun W => specDigest_c 4 4 t W (by unfold maxLen; omega)
  have hp := fun W => l03Number_c t.size 2 W (by omega) (by omega)
  try rw [numUp_2] at hp
  try have hp := fun W => hp W (by omega)
  have HD := Lib.hid hd
  have HP := Lib.hid hp
  have hz1 := digM_le 4 4 t
  have hz2 := pairB_size t.size
  clear hd hp hq
  generalize digM 4 4 t = dg at *
  generalize pairB t.size = pr at *
  have hs1 := fun W => run_string_add_sum (P := Tryz.prog) W pr dg (by omega)
  have hz3 : (pr ++ dg).size ≤ 40 := by rw [ByteArray.size_append]; omega
  obtain ⟨pd, hpd⟩ : ∃ x, x = pr ++ dg := ⟨_, rfl⟩
  rw [← hpd] at hs1 hz3
  have hs2 := fun W => run_string_add_sum (P := Tryz.prog) W pd t (by omega)
  have HPD := Lib.hid hpd
  clear hpd
  go_enter Tryz.func177, Tryz.ntmps177
  go_wp2_with fail
  refine (HR.out _).mono ?_
  rintro e w1 ⟨rfl, rfl⟩
  go_wp2_with fail
  refine (HD.out _).mono ?_
  rintro e w1 ⟨rfl, hb1⟩
  have HB1 := Lib.hid hb1
  clear hb1
  generalize digOk 4 4 t = q4 at *
  go_wp2_with fail
  refine (HP.out _).mono ?_
  rintro e w2 ⟨rfl, hb2⟩
  have HB2 := Lib.hid (below_then HB1.out hb2 HB1.out.size)
  clear hb2 HB1
  go_wp2
  refine bodyPost_ret (v := .tuple #[.string (pd ++ t), .bool true]) (by simp [results, Tryz.results177, go_sem]) rfl ?_
  exact ⟨by rw [hm.out, HO.out, HPD.out], HB2.out⟩
end Go.Proofs.YtmmepogjocfefaaGreat


