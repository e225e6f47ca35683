/- LeavesAt. -/
import Derived.Test.YtjmhebmjlnianaaFnA4
import Derived.Test.YtjmhebmjlnianaaInts
import Derived.Test.YtjmhebmjlnianaaApp
namespace Go.Proofs.Ytjmhebmjlnianaa
set_option linter.unusedVariables false
set_option linter.unusedSimpArgs false
open Go.RowKit

theorem ints_app (a b : List Int) : ints (a ++ b) = ints a ++ ints b := by rw [ints, ints, ints, List.map_append]
/-- the first places at which p holds, as long as there are fewer than most -/
def pickAt (p : Ent → Bool) (most : Int) (l : List Ent) : Nat → List Int
  | 0 => []
  | k + 1 => if (match l[k]? with | some e => p e | none => false) && decide (((pickAt p most l k).length : Int) < most) then pickAt p most l k ++ [(k : Int)] else pickAt p most l k
def isTF (t : ByteArray) (f : Int) (e : Ent) : Bool := (e.topic.toList == t.toList) && decide (f ≤ e.index)
def leavesAtM (l : List Ent) (t : ByteArray) (f m : Int) : List Int := if logOk l then pickAt (isTF t f) m l l.length else []
theorem pick_hit {p : Ent → Bool} {m : Int} {l : List Ent} {k : Nat} {e : Ent} (h : l[k]? = some e) (hp : p e = true) (hm : ((pickAt p m l k).length : Int) < m) : pickAt p m l (k + 1) = pickAt p m l k ++ [(k : Int)] := by
  rw [pickAt, h]; simp only [hp, Bool.true_and]; rw [if_pos (by simpa using hm)]
theorem pick_miss {p : Ent → Bool} {m : Int} {l : List Ent} {k : Nat} {e : Ent} (h : l[k]? = some e) (hp : p e = false) : pickAt p m l (k + 1) = pickAt p m l k := by
  rw [pickAt, h]; simp only [hp, Bool.false_and]; rfl
theorem pick_full {p : Ent → Bool} {m : Int} {l : List Ent} {k : Nat} (hm : m ≤ ((pickAt p m l k).length : Int)) : pickAt p m l (k + 1) = pickAt p m l k := by
  rw [pickAt, if_neg]
  simp only [Bool.and_eq_true, decide_eq_true_eq, not_and, Int.not_lt]
  exact fun _ => hm
theorem pick_full_to {p : Ent → Bool} {m : Int} {l : List Ent} {k : Nat} (hm : m ≤ ((pickAt p m l k).length : Int)) : ∀ j, pickAt p m l (k + j) = pickAt p m l k
  | 0 => rfl
  | j + 1 => by
    have ih := pick_full_to hm j
    rw [← Nat.add_assoc, pick_full (by rw [ih]; exact hm), ih]
theorem pick_len (p : Ent → Bool) (m : Int) (l : List Ent) : ∀ k, (pickAt p m l k).length ≤ k
  | 0 => Nat.le_refl _
  | k + 1 => by
    have := pick_len p m l k
    by_cases h : ((match l[k]? with | some e => p e | none => false) && decide (((pickAt p m l k).length : Int) < m)) = true
    · rw [pickAt, if_pos h, List.length_append]; simp; omega
    · rw [pickAt, if_neg h]; omega

set_option maxRecDepth 100000 in
set_option maxHeartbeats 400000 in
theorem specLeavesAt_c (A : Option Addr) (c lo hi n : Nat) (l : List Ent) (t : ByteArray) (f m : Int) (w : World) (hr : Rd w lo hi A (ents l)) (hn : l.length = n) (hl : n ≤ 1048576) (hcap : n ≤ c) (hf : ∀ x ∈ l, x.fits) (hfi : I64 f) (hmi : I64 m) :
    Calls Try.prog 51 #[.agg #[.slice A n c], .string t, .int .i64 f, .int .i64 m] w fun e w' => ∃ (A' : Option Addr) (c' : Nat), e = .returned (.slice A' (leavesAtM l t f m).length c') ∧ Own w' w.heap.size w'.heap.size A' (ints (leavesAtM l t f m)) ∧ Below w.heap.size w w' := by
  have HN := Lib.hid hn
  clear hn
  obtain ⟨hm1, hm2⟩ := hmi
  go_enter Try.func51, Try.ntmps51
  go_wp2_with fail
  refine (specLogOk_c A c _ _ n l _ ((hr.alloc _).alloc _) HN.out hl hcap hf).mono ?_
  rintro e w1 ⟨rfl, hb1⟩
  have hx1 : w1.cell? ⟨w.heap.size, 0, none⟩ = some (.slice A n c) := cell_later hb1 (by go_simp)
  have hq1 : w.heap.size + 1 < w1.heap.size := by have := hb1.size; simp at this; omega
  have hrow1 : w1.ownsRow (w.heap.size + 1) 3 1 (.slice (some ⟨w.heap.size + 1, 0, none⟩) 0 0) 0 [] := by
    have h := World.ownsRow_made (base := w.heap.size + 1) (e := 3) (size := 1) (w.alloc (.cells #[.slice A n c] 57)) #[] 0 (by simp) (Nat.zero_le _) rfl
    rw [show (w.alloc (.cells #[.slice A n c] 57)).heap.size = w.heap.size + 1 by simp] at h
    exact h.kept (row := none) ⟨hb1.os, hb1.tape, hb1.output, hb1.size, fun k hk _ => hb1.block k hk⟩ (.inr (by intro h; cases h))
  have HB1 : Hid (Below w.heap.size w w1) := below_then (((Below.refl _ _).alloc (Nat.le_refl _) _).alloc (by first | omega | (simp; done) | (simp; omega)) _) hb1 (by first | omega | (simp; done) | (simp; omega))
  have hr1 := hr.below HB1.out
  have hr0 := hr
  clear hb1 hr hf hr1
  rcases h1 : logOk l with _ | _
  · have hnil : Hid (leavesAtM l t f m = []) := by rw [Hid, leavesAtM, h1]; rfl
    go_wp2
    go_ret
    exact ⟨some ⟨w.heap.size + 1, 0, none⟩, 0, by rw [hnil.out]; rfl, by rw [hnil.out]; exact Own.nil, HB1.out⟩
  · have H1 := Lib.hid h1
    have HR1 := Lib.hid hrow1
    clear h1 hrow1
    go_wp2
    go_loopw [9, 10] (fun v i wr => ∃ (k : Nat) (q : List Int) (A0 : Option Addr) (c0 : Nat), k ≤ n ∧ i = .int .i64 k ∧ pickAt (isTF t f) m l k = q ∧ v = .slice A0 q.length c0 ∧ wr.ownsRow (w.heap.size + 1) 3 1 (.slice A0 q.length c0) q.length (ints q) ∧ Below (w.heap.size + 1) w1 wr) (fun _ i _ => n - (intOf i).toNat)
    case atStart => exact ⟨0, [], _, 0, Nat.zero_le _, rfl, rfl, rfl, HR1.out, Below.refl _ _⟩
    case round =>
      obtain ⟨k, q, A0, c0, hk, rfl, hq, rfl, how, hbr⟩ := hrel
      have HBR := Lib.hid hbr
      have HOW := Lib.hid how
      have HQ := Lib.hid hq
      have hql : q.length ≤ k := by rw [← hq]; exact pick_len _ _ _ _
      have hzr : w1.heap.size ≤ wr.heap.size := hbr.size
      have hqr : w.heap.size < wr.heap.size := by omega
      have hx2 : wr.cell? ⟨w.heap.size, 0, none⟩ = some (.slice A n c) := (hbr.cell (p := ⟨w.heap.size, 0, none⟩) (Nat.lt_succ_self _)).trans hx1
      have hbw : Below w.heap.size w wr := HB1.out.trans (hbr.mono (Nat.le_succ _))
      clear how hq hbr
      by_cases hlt : k < n
      · rcases (show (q.length : Int) < m ∨ m ≤ (q.length : Int) by omega) with hm | hm
        · obtain ⟨b, off, x, rfl, _, _, hb, hks, hcell⟩ := (hr0.below hbw).flat (f := Ent.cells) (m := 5) (fun _ => rfl) (by omega) (k := k) (by rw [HN.out]; exact hlt)
          have hc0 : wr.cell? ⟨b, off + k * 5, none⟩ = some (.string x.topic) := hcell 0 _ rfl
          have hc1 : wr.cell? ⟨b, off + k * 5 + 1, none⟩ = some (.int .i64 x.index) := hcell 1 _ rfl
          have hI1 : (0 : Int) ≤ (k : Int) := by omega
          have hI2 : (k : Int) < (n : Int) := by omega
          have HK := Lib.hid hks
          clear hcell hks hbw
          rcases ht : (x.topic.toList == t.toList) with _ | _
          · have HS := Lib.hid (pick_miss (m := m) HK.out (show isTF t f x = false by rw [isTF, ht, Bool.false_and]))
            go_wp2
            go_roundw
            case rel => exact ⟨k + 1, q, A0, c0, by omega, by go_num, by rw [HS.out, HQ.out], rfl, HOW.out, HBR.out⟩
            case measure => simp [intOf]; omega
          · rcases (show x.index < f ∨ f ≤ x.index by omega) with hy | hy
            · have HS := Lib.hid (pick_miss (m := m) HK.out (show isTF t f x = false by rw [isTF, ht]; simp; omega))
              go_wp2
              go_roundw
              case rel => exact ⟨k + 1, q, A0, c0, by omega, by go_num, by rw [HS.out, HQ.out], rfl, HOW.out, HBR.out⟩
              case measure => simp [intOf]; omega
            · have hp : Hid (isTF t f x = true) := by rw [Hid, isTF, ht]; simpa using hy
              have HS := Lib.hid (pick_hit (m := m) HK.out hp.out (by rw [HQ.out]; exact hm))
              go_wp2_with (at_builtin; refine app1Int rfl _ _ rfl (w.heap.size + 1) _ _ _ rfl (HOW.out.alloc _) wr.heap.size (k : Int) rfl (by show NewBox _ _ [Value.int .i64 (k : Int)]; exact ⟨by first | omega | (simp; done) | (simp; omega), fun o => by rcases o with _ | o <;> go_simp, fun o => by go_simp⟩) (by omega) (by first | omega | (simp; done) | (simp; omega)) ?_)
              intro v2 w2 hown2 hg2
              have hon := grown_only ((HOW.out.alloc _)) hg2
              obtain ⟨A2, c2, rfl, _, _, _⟩ := ownsRow_slice hown2
              have HB2 : Hid (Below (w.heap.size + 1) w1 w2) := below_only (HBR.out.alloc (by omega) _) hon (Nat.le_refl _) (by simp; omega)
              have HO2 : Hid (w2.ownsRow (w.heap.size + 1) 3 1 (.slice A2 (q.length + 1) c2) (q.length + 1) (ints (q ++ [(k : Int)]))) := by rw [Hid, ints_app]; exact hown2
              clear hown2 hg2 hon HOW
              go_wp2
              go_roundw
              case rel => exact ⟨k + 1, q ++ [(k : Int)], A2, c2, by omega, by go_num, by rw [HS.out, HQ.out], by rw [List.length_append]; rfl, by rw [List.length_append]; exact HO2.out, HB2.out⟩
              case measure => simp [intOf]; omega
        · have e1 : Hid (leavesAtM l t f m = q) := by
            have h := pick_full_to (p := isTF t f) (l := l) (k := k) (m := m) (by rw [HQ.out]; exact hm) (n - k)
            rw [Hid, leavesAtM, H1.out, HN.out, if_pos rfl, show n = k + (n - k) by omega, h, HQ.out]
          go_wp2
          go_ret
          exact ⟨A0, c0, by rw [e1.out]; rfl, by rw [e1.out]; exact (Own.of_ownsRow HOW.out).mono (by omega) (Nat.le_refl _) (Nat.le_refl _), hbw⟩
      · obtain rfl : k = n := by omega
        have e1 : Hid (leavesAtM l t f m = q) := by rw [Hid, leavesAtM, H1.out, HN.out, if_pos rfl, HQ.out]
        go_wp2
        go_ret
        exact ⟨A0, c0, by rw [e1.out]; rfl, by rw [e1.out]; exact (Own.of_ownsRow HOW.out).mono (by omega) (Nat.le_refl _) (Nat.le_refl _), hbw⟩
set_option maxRecDepth 100000 in
set_option maxHeartbeats 400000 in
theorem implLeavesAt_c (A : Option Addr) (c lo hi n : Nat) (l : List Ent) (t : ByteArray) (f m : Int) (w : World) (hr : Rd w lo hi A (ents l)) (hn : l.length = n) (hl : n ≤ 1048576) (hf : ∀ x ∈ l, x.fits) (hmi : I64 m) :
    Calls Try.prog 52 #[.agg #[.slice A n c], .string t, .int .i64 f, .int .i64 m] w fun e w' => ∃ (A' : Option Addr) (c' : Nat), e = .returned (.slice A' (leavesAtM l t f m).length c') ∧ Own w' w.heap.size w'.heap.size A' (ints (leavesAtM l t f m)) ∧ Below w.heap.size w w' := by
  have HN := Lib.hid hn
  clear hn
  obtain ⟨hm1, hm2⟩ := hmi
  go_enter Try.func52, Try.ntmps52
  rcases (show m < 1 ∨ 1 ≤ m by omega) with h0 | h0
  · have hnil : Hid (leavesAtM l t f m = []) := by
      rw [Hid, leavesAtM]
      split
      · have := pick_full_to (p := isTF t f) (m := m) (l := l) (k := 0) (by simp [pickAt]; omega) l.length
        rw [Nat.zero_add] at this
        rw [this]; rfl
      · rfl
    go_wp2
    go_ret
    exact ⟨none, 0, by rw [hnil.out]; rfl, by rw [hnil.out]; exact Own.nil, (Below.refl _ _).alloc (Nat.le_refl _) _⟩
  · go_wp2_with fail
    refine (implLogOk_c A c _ _ n l _ (hr.alloc _) HN.out hl hf).mono ?_
    rintro e w1 ⟨rfl, hb1⟩
    have hx1 : w1.cell? ⟨w.heap.size, 0, none⟩ = some (.slice A n c) := cell_later hb1 (by go_simp)
    have hq1 : w.heap.size < w1.heap.size := by have := hb1.size; simp at this; omega
    have HB1 : Hid (Below w.heap.size w w1) := below_then ((Below.refl _ _).alloc (Nat.le_refl _) _) hb1 (by first | omega | (simp; done) | (simp; omega))
    have hr1 := hr.below HB1.out
    clear hb1 hr hf
    rcases h1 : logOk l with _ | _
    · have hnil : Hid (leavesAtM l t f m = []) := by rw [Hid, leavesAtM, h1]; rfl
      go_wp2
      go_ret
      exact ⟨none, 0, by rw [hnil.out]; rfl, by rw [hnil.out]; exact Own.nil, HB1.out⟩
    · have H1 := Lib.hid h1
      clear h1
      go_wp2
      go_loopw [9, 22] (fun v i wr => ∃ (k : Nat) (q : List Int) (A0 : Option Addr) (c0 : Nat), k ≤ n ∧ i = .int .i64 k ∧ pickAt (isTF t f) m l k = q ∧ v = .slice A0 q.length c0 ∧ wr.ownsRow w1.heap.size 3 1 (.slice A0 q.length c0) q.length (ints q) ∧ Below w1.heap.size w1 wr) (fun _ i _ => n - (intOf i).toNat)
      case atStart => exact ⟨0, [], none, 0, Nat.zero_le _, rfl, rfl, rfl, World.ownsRow_nil _ _ _ _, Below.refl _ _⟩
      case round =>
        obtain ⟨k, q, A0, c0, hk, rfl, hq, rfl, how, hbr⟩ := hrel
        have HBR := Lib.hid hbr
        have HOW := Lib.hid how
        have HQ := Lib.hid hq
        have hql : q.length ≤ k := by rw [← hq]; exact pick_len _ _ _ _
        have hzr : w1.heap.size ≤ wr.heap.size := hbr.size
        have hqr : w.heap.size < wr.heap.size := by omega
        have hx2 : wr.cell? ⟨w.heap.size, 0, none⟩ = some (.slice A n c) := (hbr.cell (p := ⟨w.heap.size, 0, none⟩) hq1).trans hx1
        clear how hq
        by_cases hlt : k < n
        · obtain ⟨b, off, x, rfl, _, _, hb, hks, hcell⟩ := (hr1.below hbr).flat (f := Ent.cells) (m := 5) (fun _ => rfl) (by omega) (k := k) (by rw [HN.out]; exact hlt)
          have hc0 : wr.cell? ⟨b, off + k * 5, none⟩ = some (.string x.topic) := hcell 0 _ rfl
          have hc1 : wr.cell? ⟨b, off + k * 5 + 1, none⟩ = some (.int .i64 x.index) := hcell 1 _ rfl
          have hc2 : wr.cell? ⟨b, off + k * 5 + 2, none⟩ = some (.int .i64 x.time) := hcell 2 _ rfl
          have hc3 : wr.cell? ⟨b, off + k * 5 + 3, none⟩ = some (.string x.key) := hcell 3 _ rfl
          have hc4 : wr.cell? ⟨b, off + k * 5 + 4, none⟩ = some (.string x.body) := hcell 4 _ rfl
          have HK := Lib.hid hks
          clear hcell hks hr1 hbr
          rcases ht : (x.topic.toList == t.toList) with _ | _
          · have HS := Lib.hid (pick_miss (m := m) HK.out (show isTF t f x = false by rw [isTF, ht, Bool.false_and]))
            go_wp2
            go_roundw
            case rel => exact ⟨k + 1, q, A0, c0, by omega, by go_num, by rw [HS.out, HQ.out], rfl, HOW.out.alloc _, HBR.out.alloc HBR.out.size _⟩
            case measure => simp [intOf]; omega
          · rcases (show x.index < f ∨ f ≤ x.index by omega) with hy | hy
            · have HS := Lib.hid (pick_miss (m := m) HK.out (show isTF t f x = false by rw [isTF, ht]; simp; omega))
              go_wp2
              go_roundw
              case rel => exact ⟨k + 1, q, A0, c0, by omega, by go_num, by rw [HS.out, HQ.out], rfl, HOW.out.alloc _, HBR.out.alloc HBR.out.size _⟩
              case measure => simp [intOf]; omega
            · have hp : Hid (isTF t f x = true) := by rw [Hid, isTF, ht]; simpa using hy
              rcases (show (q.length : Int) < m ∨ m ≤ (q.length : Int) by omega) with hm | hm
              · have HS := Lib.hid (pick_hit (m := m) HK.out hp.out (by rw [HQ.out]; exact hm))
                go_wp2_with (at_builtin; refine app1Int rfl _ _ rfl w1.heap.size _ _ _ rfl ((HOW.out.alloc _).alloc _) (wr.heap.size + 1) (k : Int) rfl (by show NewBox _ _ [Value.int .i64 (k : Int)]; exact ⟨by first | omega | (simp; done) | (simp; omega), fun o => by rcases o with _ | o <;> go_simp, fun o => by go_simp⟩) (by omega) (by first | omega | (simp; done) | (simp; omega)) ?_)
                intro v2 w2 hown2 hg2
                have hon := grown_only (((HOW.out.alloc _).alloc _)) hg2
                obtain ⟨A2, c2, rfl, _, _, _⟩ := ownsRow_slice hown2
                have HB2 : Hid (Below w1.heap.size w1 w2) := below_only ((HBR.out.alloc HBR.out.size _).alloc (by simp; omega) _) hon (Nat.le_refl _) (by have := HBR.out.size; simp; omega)
                have HO2 : Hid (w2.ownsRow w1.heap.size 3 1 (.slice A2 (q.length + 1) c2) (q.length + 1) (ints (q ++ [(k : Int)]))) := by rw [Hid, ints_app]; exact hown2
                clear hown2 hg2 hon HOW
                go_wp2
                go_roundw
                case rel => exact ⟨k + 1, q ++ [(k : Int)], A2, c2, by omega, by go_num, by rw [HS.out, HQ.out], by rw [List.length_append]; rfl, by rw [List.length_append]; exact HO2.out, HB2.out⟩
                case measure => simp [intOf]; omega
              · have HS : Hid (pickAt (isTF t f) m l (k + 1) = pickAt (isTF t f) m l k) := pick_full (by rw [HQ.out]; exact hm)
                go_wp2
                go_roundw
                case rel => exact ⟨k + 1, q, A0, c0, by omega, by go_num, by rw [HS.out, HQ.out], rfl, HOW.out.alloc _, HBR.out.alloc HBR.out.size _⟩
                case measure => simp [intOf]; omega
        · obtain rfl : k = n := by omega
          have e1 : Hid (leavesAtM l t f m = q) := by rw [Hid, leavesAtM, H1.out, HN.out, if_pos rfl, HQ.out]
          clear hbr hr1
          go_wp2
          go_ret
          exact ⟨A0, c0, by rw [e1.out]; rfl, by rw [e1.out]; exact (Own.of_ownsRow HOW.out).mono (by omega) (Nat.le_refl _) (Nat.le_refl _), below_then HB1.out HBR.out HB1.out.size⟩
end Go.Proofs.Ytjmhebmjlnianaa
