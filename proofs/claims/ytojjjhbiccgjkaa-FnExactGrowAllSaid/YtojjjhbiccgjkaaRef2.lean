/- WordsOf of the reference, at a block. -/
import Derived.Test.YtojjjhbiccgjkaaRef
namespace Go.Proofs.Ytojjjhbiccgjkaa
set_option linter.unusedVariables false
set_option linter.unusedSimpArgs false
open Go.RowKit

theorem blockAt_get (t : ByteArray) (o k : Nat) (h : k < 16) : (blockAt t o)[k]? = some (wAt t (o + 4 * k)) := by simp [blockAt, h]
set_option maxRecDepth 100000 in
set_option maxHeartbeats 400000 in
theorem specWordsOf_c (t : ByteArray) (w : World) (hsz : t.size = 64) : Calls Try.prog 196 #[.string t] w fun e w' => ∃ A c, e = .returned (.tuple #[.slice A 16 c, .bool true]) ∧ Below w.heap.size w w' ∧ Rd w' w.heap.size w'.heap.size A (ws (blockAt t 0)) := by
  have hs2 : (t.size : Int) = 64 := by omega
  have HSZ := Lib.hid hsz
  clear hsz
  have hrow := row_made w 169 0
  have hbl : Below w.heap.size w (w.alloc (.cells #[] 169)) := (Below.refl _ _).alloc (Nat.le_refl _) _
  have HROW := Lib.hid hrow
  have HBL := Lib.hid hbl
  clear hrow hbl
  go_enter Try.func196, Try.ntmps196
  go_wp2
  go_loopw [4, 5] (fun v i wr => ∃ (k : Nat) (A0 : Option Addr) (c0 : Nat), k ≤ 16 ∧ i = .int .i64 (4 * k : Nat) ∧ v = .slice A0 k c0 ∧ wr.ownsRow w.heap.size 169 1 (.slice A0 k c0) k (ws ((blockAt t 0).take k)) ∧ Below w.heap.size w wr) (fun _ i _ => 64 - (intOf i).toNat)
  case atStart => exact ⟨0, _, 0, Nat.zero_le _, rfl, rfl, HROW.out, HBL.out⟩
  case round =>
    obtain ⟨k, A0, c0, hk, rfl, rfl, how, hb⟩ := hrel
    have HOW := Lib.hid how
    have HB := Lib.hid hb
    have hzr : w.heap.size ≤ wr.heap.size := hb.size
    clear how hb
    by_cases hlt : k < 16
    · have hT := take_succ (blockAt_get t 0 k hlt)
      obtain ⟨m4, hm4⟩ : ∃ m, m = 4 * k := ⟨_, rfl⟩
      rw [Nat.zero_add, ← hm4] at hT
      rw [← hm4]
      have HM4 := Lib.hid hm4
      have hm5 : (m4 : Int) < 64 := by omega
      have hfit : m4 + 4 ≤ t.size := by have := HSZ.out; omega
      have hmx : t.size ≤ maxLen := by have := HSZ.out; unfold maxLen; omega
      have HT := Lib.hid hT
      have HWA := Lib.hid (wAt_eq t m4 hfit)
      have HMX := Lib.hid hmx
      have HF := Lib.hid hfit
      clear hT hm4 hmx
      go_wp2_with fail
      refine (specWordAt_c t m4 _ HMX.out HF.out).mono ?_
      rintro e w1 ⟨rfl, rfl⟩
      rw [HWA.out]
      go_wp2_with (at_builtin; refine app1Wd rfl _ _ rfl w.heap.size _ _ _ rfl (HOW.out.alloc _) wr.heap.size (wAt t m4) rfl (NewBox.new wr _ _) (by omega) (by first | omega | (simp; done) | (simp; omega)) ?_)
      intro v2 w2 hown2 hg2
      have hon := grown_only (HOW.out.alloc _) hg2
      obtain ⟨A2, c2, rfl, _, _, _⟩ := ownsRow_slice hown2
      have HB2 : Hid (Below w.heap.size w w2) := below_only (HB.out.alloc hzr _) hon (Nat.le_refl _) (by simp; omega)
      rw [← ws_app, ← HT.out] at hown2
      have HO2 := Lib.hid hown2
      clear hown2 hg2 hon HOW
      go_wp2
      go_roundw
      case rel => exact ⟨k + 1, A2, c2, by omega, by have := HM4.out; rw [show 4 * (k + 1) = m4 + 4 by omega]; rfl, rfl, HO2.out, HB2.out⟩
      case measure => simp [intOf]; omega
    · obtain rfl : k = 16 := by omega
      go_wp2
      refine bodyPost_ret (v := .tuple #[.slice A0 16 c0, .bool true]) (by simp [results, Try.results196, go_sem]) rfl ?_
      refine ⟨A0, c0, rfl, HB.out, ?_⟩
      have h := (Own.of_ownsRow HOW.out).rd
      rwa [List.take_of_length_le (by rw [(blockAt_wds t 0).1]; exact Nat.le_refl _)] at h
end Go.Proofs.Ytojjjhbiccgjkaa
