/- The reference's side of the hash. -/
import Derived.Test.YtojjjhbiccgjkaaAppW
import Derived.Test.YtojjjhbiccgjkaaMixAll
import Derived.Test.YtojjjhbiccgjkaaDig
namespace Go.Proofs.Ytojjjhbiccgjkaa
set_option linter.unusedVariables false
set_option linter.unusedSimpArgs false
open Go.RowKit

theorem row_made (w : World) (e t : TypeId) : (w.alloc (.cells #[] e)).ownsRow w.heap.size e 1 (.slice (some ⟨w.heap.size, 0, none⟩) 0 0) 0 [] :=
  World.ownsRow_made (base := w.heap.size) (e := e) (size := 1) w #[] 0 (by simp) (Nat.zero_le _) rfl
theorem firstW_get (tag : Int) (k : Nat) (h : k < 8) : (firstW tag)[k]? = some (fw tag k) := by simp [firstW, h]
set_option maxRecDepth 100000 in
set_option maxHeartbeats 400000 in
theorem specStartOf_c (tag : Int) (w : World) : Calls Try.prog 158 #[.int .i64 tag] w fun e w' => ∃ A n c, e = .returned (.tuple #[.slice A n c, .bool (inR tag 0 255)]) ∧ Below w.heap.size w w' ∧ (inR tag 0 255 = true → n = 8 ∧ Rd w' w.heap.size w'.heap.size A (ws (firstW tag))) := by
  go_enter Try.func158, Try.ntmps158
  go_wp2_with fail
  have hrow := row_made w 169 0
  have hbl : Below w.heap.size w (w.alloc (.cells #[] 169)) := (Below.refl _ _).alloc (Nat.le_refl _) _
  have HROW := Lib.hid hrow
  have HBL := Lib.hid hbl
  clear hrow hbl
  refine calls_named fun W hW => ?_
  rw [← hW] at HROW HBL
  clear hW
  refine (l01In_c tag 0 255 _).mono ?_
  rintro e w1 ⟨rfl, rfl⟩
  rcases hq : inR tag 0 255 with _ | _
  · go_wp2
    refine bodyPost_ret (v := .tuple #[.slice (some ⟨w.heap.size, 0, none⟩) 0 0, .bool false]) (by simp [results, Try.results158, go_sem]) rfl ?_
    exact ⟨_, _, _, by rw [hq], HBL.out, fun h => by rw [hq] at h; cases h⟩
  · have hr := inR_true.1 hq
    go_wp2
    go_loopw [4, 5] (fun v i wr => ∃ (k : Nat) (A0 : Option Addr) (c0 : Nat), k ≤ 8 ∧ i = .int .i64 k ∧ v = .slice A0 k c0 ∧ wr.ownsRow w.heap.size 169 1 (.slice A0 k c0) k (ws ((firstW tag).take k)) ∧ Below w.heap.size w wr) (fun _ i _ => 8 - (intOf i).toNat)
    case atStart => exact ⟨0, _, 0, Nat.zero_le _, rfl, rfl, HROW.out, HBL.out⟩
    case round =>
      obtain ⟨k, A0, c0, hk, rfl, rfl, how, hb⟩ := hrel
      have HOW := Lib.hid how
      have HB := Lib.hid hb
      have hzr : w.heap.size ≤ wr.heap.size := hb.size
      clear how hb
      by_cases hlt : k < 8
      · have hT := take_succ (firstW_get tag k hlt)
        have HT := Lib.hid hT
        clear hT
        go_wp2_with (at_builtin; refine app1Wd rfl _ _ rfl w.heap.size _ _ _ rfl (HOW.out.alloc _) wr.heap.size (fw tag k) rfl (NewBox.new wr _ _) (by omega) (by first | omega | (simp; done) | (simp; omega)) ?_)
        intro v2 w2 hown2 hg2
        have hon := grown_only (HOW.out.alloc _) hg2
        obtain ⟨A2, c2, rfl, _, _, _⟩ := ownsRow_slice hown2
        have HB2 : Hid (Below w.heap.size w w2) := below_only (HB.out.alloc hzr _) hon (Nat.le_refl _) (by simp; omega)
        rw [← ws_app, ← HT.out] at hown2
        have HO2 := Lib.hid hown2
        clear hown2 hg2 hon HOW
        go_wp2
        go_roundw
        case rel => exact ⟨k + 1, A2, c2, by omega, by go_num, rfl, HO2.out, HB2.out⟩
        case measure => simp [intOf]; omega
      · obtain rfl : k = 8 := by omega
        go_wp2
        refine bodyPost_ret (v := .tuple #[.slice A0 8 c0, .bool true]) (by simp [results, Try.results158, go_sem]) rfl ?_
        refine ⟨A0, 8, c0, by rw [hq], HB.out, fun _ => ⟨rfl, ?_⟩⟩
        have h := (Own.of_ownsRow HOW.out).rd
        rwa [List.take_of_length_le (by rw [firstW_len]; exact Nat.le_refl _)] at h
end Go.Proofs.Ytojjjhbiccgjkaa
