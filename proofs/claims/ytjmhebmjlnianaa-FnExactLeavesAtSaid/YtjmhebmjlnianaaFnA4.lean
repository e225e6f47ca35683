/- NextOf, LatestOf, LeafOf. -/
import Derived.Test.YtjmhebmjlnianaaLogOk
namespace Go.Proofs.Ytjmhebmjlnianaa
set_option linter.unusedVariables false
set_option linter.unusedSimpArgs false
open Go.RowKit

def nextOfM (l : List Ent) (t : ByteArray) : Int := if logOk l && nameOk t then (cnt l t : Nat) else -1

set_option maxRecDepth 100000 in
set_option maxHeartbeats 400000 in
theorem specNextOf_c (A : Option Addr) (c lo hi n : Nat) (l : List Ent) (t : ByteArray) (w : World) (hr : Rd w lo hi A (ents l)) (hn : l.length = n) (hl : n ≤ 1048576) (hcap : n ≤ c) (hf : ∀ x ∈ l, x.fits) (ht : t.size ≤ 1048576) :
    Calls Try.prog 47 #[.agg #[.slice A n c], .string t] w fun e w' => e = .returned (.int .i64 (nextOfM l t)) ∧ Below w.heap.size w w' := by
  go_enter Try.func47, Try.ntmps47
  go_wp2_with fail
  refine (specLogOk_c A c _ _ n l _ (hr.alloc _) hn hl hcap hf).mono ?_
  rintro e w1 ⟨rfl, hb1⟩
  have hx1 : w1.cell? ⟨w.heap.size, 0, none⟩ = some (.slice A n c) := cell_later hb1 (by go_simp)
  have hq1 : w.heap.size < w1.heap.size := by have := hb1.size; simp at this; omega
  have HB1 : Hid (Below w.heap.size w w1) := below_then ((Below.refl _ _).alloc (Nat.le_refl _) _) hb1 (by first | omega | (simp; done) | (simp; omega))
  clear hb1
  rcases h1 : logOk l with _ | _
  · go_wp2
    go_ret
    exact ⟨ret_int (by rw [nextOfM, h1]; rfl), HB1.out⟩
  · have H1 := Lib.hid h1
    clear h1
    go_wp2_with fail
    refine (specNameOk_c t _ (by unfold maxLen; omega)).mono ?_
    rintro e w2 ⟨rfl, rfl⟩
    rcases h2 : nameOk t with _ | _
    · go_wp2
      go_ret
      exact ⟨ret_int (by rw [nextOfM, h2, Bool.and_false]; rfl), HB1.out⟩
    · have H2 := Lib.hid h2
      clear h2
      go_wp2_with fail
      refine (l09Count_c A c _ _ n l t _ (hr.below HB1.out) hn hl).mono ?_
      rintro e w2 ⟨rfl, rfl⟩
      go_wp2
      go_ret
      exact ⟨ret_int (by rw [nextOfM, H1.out, H2.out]; rfl), HB1.out⟩
set_option maxRecDepth 100000 in
set_option maxHeartbeats 400000 in
theorem implNextOf_c (A : Option Addr) (c lo hi n : Nat) (l : List Ent) (t : ByteArray) (w : World) (hr : Rd w lo hi A (ents l)) (hn : l.length = n) (hl : n ≤ 1048576) (hf : ∀ x ∈ l, x.fits) (ht : t.size ≤ 1048576) :
    Calls Try.prog 48 #[.agg #[.slice A n c], .string t] w fun e w' => e = .returned (.int .i64 (nextOfM l t)) ∧ Below w.heap.size w w' := by
  go_enter Try.func48, Try.ntmps48
  go_wp2_with fail
  refine (implNameOk_c t _ (by unfold maxLen; omega)).mono ?_
  rintro e w2 ⟨rfl, rfl⟩
  rcases h2 : nameOk t with _ | _
  · go_wp2
    go_ret
    exact ⟨ret_int (by rw [nextOfM, h2, Bool.and_false]; rfl), (Below.refl _ _).alloc (Nat.le_refl _) _⟩
  · have H2 := Lib.hid h2
    clear h2
    go_wp2_with fail
    refine (implLogOk_c A c _ _ n l _ (hr.alloc _) hn hl hf).mono ?_
    rintro e w1 ⟨rfl, hb1⟩
    have hx1 : w1.cell? ⟨w.heap.size, 0, none⟩ = some (.slice A n c) := cell_later hb1 (by go_simp)
    have hq1 : w.heap.size < w1.heap.size := by have := hb1.size; simp at this; omega
    have HB1 : Hid (Below w.heap.size w w1) := below_then ((Below.refl _ _).alloc (Nat.le_refl _) _) hb1 (by first | omega | (simp; done) | (simp; omega))
    clear hb1
    rcases h1 : logOk l with _ | _
    · go_wp2
      go_ret
      exact ⟨ret_int (by rw [nextOfM, h1]; rfl), HB1.out⟩
    · have H1 := Lib.hid h1
      clear h1
      go_wp2_with fail
      refine (nextOf_c A c _ _ n l t _ (hr.below HB1.out) hn hl).mono ?_
      rintro e w2 ⟨rfl, hb2⟩
      have HB2 := below_then HB1.out hb2 HB1.out.size
      clear hb2
      go_wp2
      go_ret
      exact ⟨ret_int (by rw [nextOfM, H1.out, H2.out]; rfl), HB2⟩

/-- the last place, of the first k, that has a property; or -1 -/
def lastTo (p : Ent → Bool) (l : List Ent) : Nat → Int
  | 0 => -1
  | k + 1 => if (l[k]?).any p then (k : Int) else lastTo p l k
theorem lastTo_hit {p : Ent → Bool} {l : List Ent} {k : Nat} {e : Ent} (h : l[k]? = some e) (hp : p e = true) : lastTo p l (k + 1) = k := by
  rw [lastTo, h, if_pos (by simpa using hp)]
theorem lastTo_miss {p : Ent → Bool} {l : List Ent} {k : Nat} {e : Ent} (h : l[k]? = some e) (hp : p e = false) : lastTo p l (k + 1) = lastTo p l k := by
  rw [lastTo, h, if_neg (by simp [hp])]
theorem lastTo_lt (p : Ent → Bool) (l : List Ent) : ∀ k, -1 ≤ lastTo p l k ∧ lastTo p l k < k
  | 0 => ⟨Int.le_refl _, show (-1 : Int) < 0 by decide⟩
  | k + 1 => by
    have := lastTo_lt p l k
    rw [lastTo]
    split <;> omega
def isTK (t k : ByteArray) (e : Ent) : Bool := (e.topic.toList == t.toList) && (e.key.toList == k.toList)
def latestOfM (l : List Ent) (t k : ByteArray) : Int := if logOk l then lastTo (isTK t k) l l.length else -1

set_option maxRecDepth 100000 in
set_option maxHeartbeats 400000 in
theorem specLatestOf_c (A : Option Addr) (c lo hi n : Nat) (l : List Ent) (t y : ByteArray) (w : World) (hr : Rd w lo hi A (ents l)) (hn : l.length = n) (hl : n ≤ 1048576) (hcap : n ≤ c) (hf : ∀ x ∈ l, x.fits) :
    Calls Try.prog 45 #[.agg #[.slice A n c], .string t, .string y] w fun e w' => e = .returned (.int .i64 (latestOfM l t y)) ∧ Below w.heap.size w w' := by
  go_enter Try.func45, Try.ntmps45
  go_wp2_with fail
  refine (specLogOk_c A c _ _ n l _ (hr.alloc _) hn hl hcap hf).mono ?_
  rintro e w1 ⟨rfl, hb1⟩
  have hx1 : w1.cell? ⟨w.heap.size, 0, none⟩ = some (.slice A n c) := cell_later hb1 (by go_simp)
  have hq1 : w.heap.size < w1.heap.size := by have := hb1.size; simp at this; omega
  have HB1 : Hid (Below w.heap.size w w1) := below_then ((Below.refl _ _).alloc (Nat.le_refl _) _) hb1 (by first | omega | (simp; done) | (simp; omega))
  have hr1 := hr.below HB1.out
  have HN := Lib.hid hn
  clear hb1 hn hr hf
  rcases h1 : logOk l with _ | _
  · go_wp2
    refine wp_loop_once ?_
    by_cases h0 : n = 0
    · subst h0
      go_wp2
      go_ret
      exact ⟨ret_int (by rw [latestOfM, h1]; rfl), HB1.out⟩
    · go_wp2
      go_ret
      exact ⟨ret_int (by rw [latestOfM, h1]; rfl), HB1.out⟩
  · have H1 := Lib.hid h1
    clear h1
    go_wp2
    go_loop [7, 9] (fun a i => ∃ k : Nat, k ≤ n ∧ i = .int .i64 k ∧ a = .int .i64 (lastTo (isTK t y) l k)) (fun _ i => n - (intOf i).toNat)
    case atStart => exact ⟨0, Nat.zero_le _, rfl, rfl⟩
    case round =>
      obtain ⟨k, hk, rfl, rfl⟩ := hrel
      by_cases hlt : k < n
      · obtain ⟨b, off, x, rfl, _, _, hb, hks, hcell⟩ := hr1.flat (f := Ent.cells) (m := 5) (fun _ => rfl) (by omega) (k := k) (by rw [HN.out]; exact hlt)
        have hc0 : w1.cell? ⟨b, off + k * 5, none⟩ = some (.string x.topic) := hcell 0 _ rfl
        have hc3 : w1.cell? ⟨b, off + k * 5 + 3, none⟩ = some (.string x.key) := hcell 3 _ rfl
        have hI1 : (0 : Int) ≤ (k : Int) := by omega
        have hI2 : (k : Int) < (n : Int) := by omega
        have HK := Lib.hid hks
        clear hcell hks hr1
        generalize hz : lastTo (isTK t y) l k = z
        have HZ := Lib.hid hz
        clear hz
        rcases ht : (x.topic.toList == t.toList) with _ | _
        · have hp : isTK t y x = false := by rw [isTK, ht, Bool.false_and]
          have HS := Lib.hid (lastTo_miss HK.out hp)
          clear hp
          go_wp2
          go_round
          case rel => exact ⟨k + 1, by omega, by go_num, by rw [HS.out, HZ.out]⟩
          case measure => simp [intOf]; omega
        · rcases hy : (x.key.toList == y.toList) with _ | _
          · have hp : isTK t y x = false := by rw [isTK, hy, Bool.and_false]
            have HS := Lib.hid (lastTo_miss HK.out hp)
            clear hp
            go_wp2
            go_round
            case rel => exact ⟨k + 1, by omega, by go_num, by rw [HS.out, HZ.out]⟩
            case measure => simp [intOf]; omega
          · have hp : isTK t y x = true := by rw [isTK, hy, ht]; rfl
            have HS := Lib.hid (lastTo_hit HK.out hp)
            clear hp
            go_wp2
            go_round
            case rel => exact ⟨k + 1, by omega, by go_num, by rw [HS.out]⟩
            case measure => simp [intOf]; omega
      · obtain rfl : k = n := by omega
        go_wp2
        go_ret
        exact ⟨ret_int (by rw [latestOfM, H1.out, HN.out]; rfl), HB1.out⟩
set_option maxRecDepth 100000 in
set_option maxHeartbeats 400000 in
theorem implLatestOf_c (A : Option Addr) (c lo hi n : Nat) (l : List Ent) (t y : ByteArray) (w : World) (hr : Rd w lo hi A (ents l)) (hn : l.length = n) (hl : n ≤ 1048576) (hf : ∀ x ∈ l, x.fits) :
    Calls Try.prog 46 #[.agg #[.slice A n c], .string t, .string y] w fun e w' => e = .returned (.int .i64 (latestOfM l t y)) ∧ Below w.heap.size w w' := by
  go_enter Try.func46, Try.ntmps46
  go_wp2_with fail
  refine (implLogOk_c A c _ _ n l _ (hr.alloc _) hn hl hf).mono ?_
  rintro e w1 ⟨rfl, hb1⟩
  have hx1 : w1.cell? ⟨w.heap.size, 0, none⟩ = some (.slice A n c) := cell_later hb1 (by go_simp)
  have hq1 : w.heap.size < w1.heap.size := by have := hb1.size; simp at this; omega
  have HB1 : Hid (Below w.heap.size w w1) := below_then ((Below.refl _ _).alloc (Nat.le_refl _) _) hb1 (by first | omega | (simp; done) | (simp; omega))
  have hr1 := hr.below HB1.out
  have HN := Lib.hid hn
  clear hb1 hn hr hf
  rcases h1 : logOk l with _ | _
  · go_wp2
    go_ret
    exact ⟨ret_int (by rw [latestOfM, h1]; rfl), HB1.out⟩
  · have H1 := Lib.hid h1
    clear h1
    go_wp2
    go_loopw [7] (fun i wr => ∃ k : Nat, k ≤ n ∧ i = .int .i64 ((k : Int) - 1) ∧ lastTo (isTK t y) l n = lastTo (isTK t y) l k ∧ Below w1.heap.size w1 wr) (fun i _ => (intOf i + 1).toNat)
    case atStart => exact ⟨n, Nat.le_refl _, by go_num, rfl, Below.refl _ _⟩
    case round =>
      obtain ⟨k0, hk, rfl, hst, hbr⟩ := hrel
      have HST := Lib.hid hst
      clear hst
      have hx2 : wr.cell? ⟨w.heap.size, 0, none⟩ = some (.slice A n c) := (hbr.cell (p := ⟨w.heap.size, 0, none⟩) hq1).trans hx1
      have hq2 : w.heap.size < wr.heap.size := Nat.lt_of_lt_of_le hq1 hbr.size
      have HBR := Lib.hid hbr
      rcases k0 with _ | k
      · clear hbr hr1
        go_wp2
        go_ret
        exact ⟨ret_int (by rw [latestOfM, H1.out, HN.out, HST.out]; rfl), below_then HB1.out HBR.out HB1.out.size⟩
      · obtain ⟨b, off, x, rfl, _, _, hb, hks, hcell⟩ := (hr1.below hbr).flat (f := Ent.cells) (m := 5) (fun _ => rfl) (by omega) (k := k) (by rw [HN.out]; omega)
        have hc0 : wr.cell? ⟨b, off + k * 5, none⟩ = some (.string x.topic) := hcell 0 _ rfl
        have hc1 : wr.cell? ⟨b, off + k * 5 + 1, none⟩ = some (.int .i64 x.index) := hcell 1 _ rfl
        have hc2 : wr.cell? ⟨b, off + k * 5 + 2, none⟩ = some (.int .i64 x.time) := hcell 2 _ rfl
        have hc3 : wr.cell? ⟨b, off + k * 5 + 3, none⟩ = some (.string x.key) := hcell 3 _ rfl
        have hc4 : wr.cell? ⟨b, off + k * 5 + 4, none⟩ = some (.string x.body) := hcell 4 _ rfl
        have hI1 : (0 : Int) ≤ (k : Int) := by omega
        have hI2 : (k : Int) < (n : Int) := by omega
        have hk1 : (((k + 1 : Nat) : Int) - 1) = (k : Int) := by omega
        rw [hk1]
        have HK := Lib.hid hks
        clear hcell hks hr1 hbr
        rcases ht : (x.topic.toList == t.toList) with _ | _
        · have hp : isTK t y x = false := by rw [isTK, ht, Bool.false_and]
          have HS := Lib.hid (lastTo_miss HK.out hp)
          clear hp
          go_wp2
          go_roundw
          case rel => exact ⟨k, by omega, by go_num, by rw [HST.out, HS.out], HBR.out.alloc HBR.out.size _⟩
          case measure => first | (simp [intOf]; done) | (simp [intOf]; omega)
        · rcases hy : (x.key.toList == y.toList) with _ | _
          · have hp : isTK t y x = false := by rw [isTK, hy, Bool.and_false]
            have HS := Lib.hid (lastTo_miss HK.out hp)
            clear hp
            go_wp2
            go_roundw
            case rel => exact ⟨k, by omega, by go_num, by rw [HST.out, HS.out], HBR.out.alloc HBR.out.size _⟩
            case measure => first | (simp [intOf]; done) | (simp [intOf]; omega)
          · have hp : isTK t y x = true := by rw [isTK, hy, ht]; rfl
            have HS := Lib.hid (lastTo_hit HK.out hp)
            clear hp
            go_wp2
            go_ret
            exact ⟨ret_int (by rw [latestOfM, H1.out, HN.out, HST.out, HS.out]; rfl), below_then HB1.out (HBR.out.alloc HBR.out.size _) HB1.out.size⟩
end Go.Proofs.Ytjmhebmjlnianaa
