/- HeadsOk. -/
import Derived.Test.YtojjjhbiccgjkaaHd2
namespace Go.Proofs.Ytojjjhbiccgjkaa
set_option linter.unusedVariables false
set_option linter.unusedSimpArgs false
open Go.RowKit

def headAt (width : Int) (l : List Hd) (i : Nat) : Bool := match l[i]? with
  | some h => (h.num == (i : Int)) && headOk width h && (i == 0 || match l[i - 1]? with | some p => followsM width p h | none => false)
  | none => false
def headsUp (width : Int) (l : List Hd) : Nat → Bool
  | 0 => true
  | k + 1 => headsUp width l k && headAt width l k
def headsOk (width : Int) (l : List Hd) : Bool := inR width 1 32 && decide (l.length ≤ 400) && headsUp width l l.length
theorem headsUp_le {width : Int} {l : List Hd} : ∀ {n k : Nat}, k ≤ n → headsUp width l n = true → headsUp width l k = true
  | 0, k, hk, h => by
    obtain rfl : k = 0 := by omega
    exact h
  | n + 1, k, hk, h => by
    by_cases e : k = n + 1
    · subst e; exact h
    · rw [headsUp, Bool.and_eq_true] at h
      exact headsUp_le (by omega) h.1
theorem headsUp_no {width : Int} {l : List Hd} {n k : Nat} (hn : l.length = n) (hk : k < n) (h : headAt width l k = false) : headsUp width l l.length = false := by
  rcases hh : headsUp width l l.length with _ | _
  · rfl
  · have h1 := headsUp_le (n := l.length) (k := k + 1) (by omega) hh
    rw [headsUp, h, Bool.and_false] at h1
    cases h1
theorem headAt_0 {width : Int} {l : List Hd} {x : Hd} (hx : l[0]? = some x) : headAt width l 0 = ((x.num == ((0 : Nat) : Int)) && headOk width x) := by
  rw [headAt, hx]; simp
theorem headAt_s {width : Int} {l : List Hd} {x p : Hd} {k q : Nat} (hx : l[k]? = some x) (hp : l[q]? = some p) (hk : k = q + 1) : headAt width l k = ((x.num == (k : Int)) && headOk width x && followsM width p x) := by
  subst hk
  rw [headAt, hx]
  simp [hp]
theorem headAt_num {width : Int} {l : List Hd} {x : Hd} {k : Nat} (hx : l[k]? = some x) (h : (x.num == (k : Int)) = false) : headAt width l k = false := by
  rw [headAt, hx]; simp [h]
theorem headAt_ok {width : Int} {l : List Hd} {x : Hd} {k : Nat} (hx : l[k]? = some x) (h : headOk width x = false) : headAt width l k = false := by
  rw [headAt, hx]; simp [h]
theorem sumBy_two {α : Type} (f : α → Nat) {l : List α} {k q : Nat} {x p : α} (hx : l[k]? = some x) (hp : l[q]? = some p) (hk : k = q + 1) : f p + f x ≤ sumBy f l := by
  subst hk
  have h1 := sumBy_take f hx
  have h2 := sumBy_take f hp
  have h3 := sumBy_take_le f l (q + 1 + 1)
  omega
theorem hd_cells {w : World} {lo hi : Nat} {A : Option Addr} {l : List Hd} (h : Rd w lo hi A (hds l)) {k : Nat} (hk : k < l.length) : ∃ b off x, A = some ⟨b, off, none⟩ ∧ b < w.heap.size ∧ l[k]? = some x ∧
    w.cell? ⟨b, off + k * 5, none⟩ = some (.int .i64 x.num) ∧ w.cell? ⟨b, off + k * 5 + 1, none⟩ = some (.int .i64 x.size) ∧ w.cell? ⟨b, off + k * 5 + 2, none⟩ = some (.string x.root) ∧ w.cell? ⟨b, off + k * 5 + 3, none⟩ = some (.int .i64 x.taken) ∧ w.cell? ⟨b, off + k * 5 + 4, none⟩ = some (.string x.troot) := by
  obtain ⟨b, off, x, h1, _, _, h4, h5, h6⟩ := Rd.flat (f := Hd.cells) (m := 5) (fun _ => rfl) (by omega) h hk
  exact ⟨b, off, x, h1, h4, h5, h6 0 _ rfl, h6 1 _ rfl, h6 2 _ rfl, h6 3 _ rfl, h6 4 _ rfl⟩

set_option maxRecDepth 100000 in
set_option maxHeartbeats 4000000 in
theorem implHeadsOk_c (width : Int) (A : Option Addr) (c lo hi n : Nat) (l : List Hd) (w : World) (hr : Rd w lo hi A (hds l)) (hn : l.length = n) (hl : n + sumBy Hd.bulk l ≤ 1048576) :
    Calls Try.prog 51 #[.int .i64 width, .slice A n c] w fun e w' => e = .returned (.bool (headsOk width l)) ∧ Below w.heap.size w w' := by
  have HN := Lib.hid hn
  have HL := Lib.hid hl
  have HR := Lib.hid hr
  have HDEF : Hid (headsOk width l = (inR width 1 32 && decide (l.length ≤ 400) && headsUp width l l.length)) := Lib.hid rfl
  have hn2 : n ≤ 1048576 := by omega
  clear hn hl hr
  go_enter Try.func51, Try.ntmps51
  go_wp2_with fail
  refine (isWidth_c width _).mono ?_
  rintro e w1 ⟨rfl, rfl⟩
  rcases hq : inR width 1 32 with _ | _
  · go_wp2
    go_ret
    exact ⟨ret_bool (by rw [HDEF.out, hq]; rfl), Below.refl _ _⟩
  · rw [hq] at HDEF
    clear hq
    by_cases h4 : n ≤ 400
    · have H4 : Hid (decide (l.length ≤ 400) = true) := Lib.hid (by rw [HN.out]; exact decide_eq_true h4)
      go_wp2
      go_loopw [17] (fun i wx => ∃ k : Nat, k ≤ n ∧ i = .int .i64 k ∧ headsUp width l k = true ∧ Below w.heap.size w wx) (fun i _ => n - (intOf i).toNat)
      case atStart => exact ⟨0, Nat.zero_le _, rfl, rfl, Below.refl _ _⟩
      case round =>
        obtain ⟨k, hk, rfl, hup, hbr⟩ := hrel
        have HUP := Lib.hid hup
        clear hup
        by_cases hlt : k < n
        · obtain ⟨b, off, x, rfl, hb, hx, hc⟩ := hd_cells (HR.out.below hbr) (k := k) (by rw [HN.out]; exact hlt)
          have hc0 := hc.1
          have hc1 := hc.2.1
          have hc2 := hc.2.2.1
          have hc3 := hc.2.2.2.1
          have hc4 := hc.2.2.2.2
          have HX := Lib.hid hx
          have HBR0 := Lib.hid hbr
          have hbk : Hid (x.bulk ≤ 1048576) := Lib.hid (by have := sumBy_get Hd.bulk hx; have := HL.out; omega)
          have hI : (k : Int) < n := by omega
          clear hc hx
          go_wp2_with fail
          refine wp_named (fun w5 hw => ?_)
          have HBR : Hid (Below w.heap.size w w5) := by rw [Hid, hw]; exact HBR0.out.alloc HBR0.out.size _
          have hX : NewBox w5 wr.heap.size x.cells := by rw [hw]; exact NewBox.new wr x.cells.toArray _
          have hz5 : wr.heap.size < w5.heap.size := hX.1
          clear hw hc0 hc1 hc2 hc3 hc4
          have g0 : ∀ v : Later w5, v.v.cell? ⟨wr.heap.size, 0, none⟩ = some (.int .i64 x.num) := fun v => (later_cell v _ _ hz5).trans (hX.cell (o := 0) rfl)
          have g1 : ∀ v : Later w5, v.v.cell? ⟨wr.heap.size, 1, none⟩ = some (.int .i64 x.size) := fun v => (later_cell v _ _ hz5).trans (hX.cell (o := 1) rfl)
          have g2 : ∀ v : Later w5, v.v.cell? ⟨wr.heap.size, 2, none⟩ = some (.string x.root) := fun v => (later_cell v _ _ hz5).trans (hX.cell (o := 2) rfl)
          have g3 : ∀ v : Later w5, v.v.cell? ⟨wr.heap.size, 3, none⟩ = some (.int .i64 x.taken) := fun v => (later_cell v _ _ hz5).trans (hX.cell (o := 3) rfl)
          have g4 : ∀ v : Later w5, v.v.cell? ⟨wr.heap.size, 4, none⟩ = some (.string x.troot) := fun v => (later_cell v _ _ hz5).trans (hX.cell (o := 4) rfl)
          clear hX
          rcases d1 : (x.num == (k : Int)) with _ | _
          · have n1 := bne_of_beq d1
            have HAT := Lib.hid (headAt_num (width := width) HX.out d1)
            refine wp_region_later (by kernel_rfl) (by kernel_rfl) ?_
            repeat (go_big_quiet_step (fail))
            refine wpQuiet_nil ?_
            intro w8 h8
            have HB8 : Hid (Below w.heap.size w w8) := below_then HBR.out (later_below h8) HBR.out.size
            clear h8
            clear g0 g1 g2 g3 g4
            go_wp2
            go_ret
            exact ⟨ret_bool (by rw [HDEF.out, headsUp_no HN.out hlt HAT.out]; simp), HB8.out⟩
          · have n1 := bne_of_beq d1
            have HO := Lib.hid (fun W => implHeadOk_c width x W hbk.out)
            rcases q1 : headOk width x with _ | _
            · have HAT := Lib.hid (headAt_ok (width := width) HX.out q1)
              rw [q1] at HO
              clear q1
              refine wp_region_later (by kernel_rfl) (by kernel_rfl) ?_
              repeat (go_big_quiet_step ((with_reducible exact later_call (HO.out _))))
              refine wpQuiet_nil ?_
              intro w8 h8
              have HB8 : Hid (Below w.heap.size w w8) := below_then HBR.out (later_below h8) HBR.out.size
              clear h8
              clear g0 g1 g2 g3 g4
              go_wp2
              go_ret
              exact ⟨ret_bool (by rw [HDEF.out, headsUp_no HN.out hlt HAT.out]; simp), HB8.out⟩
            · have Q1 := Lib.hid q1
              have D1 := Lib.hid d1
              rw [q1] at HO
              clear q1
              rcases (show k = 0 ∨ 0 < k by omega) with hk0 | hk0
              · have HAT : Hid (headAt width l k = true) := Lib.hid (by subst hk0; rw [headAt_0 HX.out, D1.out, Q1.out]; rfl)
                have e0 : decide ((0 : Int) < (k : Int)) = false := decide_eq_false (by omega)
                have n0 : (x.num != 0) = false := by subst hk0; exact n1
                refine wp_region_later (by kernel_rfl) (by kernel_rfl) ?_
                repeat (go_big_quiet_step ((with_reducible exact later_call (HO.out _))))
                refine wpQuiet_nil ?_
                intro w8 h8
                have HB8 : Hid (Below w.heap.size w w8) := below_then HBR.out (later_below h8) HBR.out.size
                clear h8
                clear g0 g1 g2 g3 g4 e0 n0
                go_wp2
                go_round
                case rel => exact ⟨k + 1, by omega, by go_num, by rw [headsUp, HUP.out, HAT.out]; rfl, HB8.out⟩
                case measure => simp [intOf]; omega
              · obtain ⟨q, hkq⟩ : ∃ q, k = q + 1 := ⟨k - 1, by omega⟩
                obtain ⟨b2, off2, p, e2, hb2, hp, hd⟩ := hd_cells (HR.out.below HBR.out) (k := q) (by rw [HN.out]; omega)
                cases e2
                have HF := Lib.hid (fun W => implFollows_c width p x W (by have := sumBy_two Hd.bulk HX.out hp hkq; have := HL.out; omega))
                have HS := Lib.hid (headAt_s (width := width) HX.out hp hkq)
                have hb5 : b < w5.heap.size := by omega
                have f0 : ∀ v : Later w5, v.v.cell? ⟨b, off + q * 5, none⟩ = some (.int .i64 p.num) := fun v => (later_cell v _ _ hb5).trans hd.1
                have f1 : ∀ v : Later w5, v.v.cell? ⟨b, off + q * 5 + 1, none⟩ = some (.int .i64 p.size) := fun v => (later_cell v _ _ hb5).trans hd.2.1
                have f2 : ∀ v : Later w5, v.v.cell? ⟨b, off + q * 5 + 2, none⟩ = some (.string p.root) := fun v => (later_cell v _ _ hb5).trans hd.2.2.1
                have f3 : ∀ v : Later w5, v.v.cell? ⟨b, off + q * 5 + 3, none⟩ = some (.int .i64 p.taken) := fun v => (later_cell v _ _ hb5).trans hd.2.2.2.1
                have f4 : ∀ v : Later w5, v.v.cell? ⟨b, off + q * 5 + 4, none⟩ = some (.string p.troot) := fun v => (later_cell v _ _ hb5).trans hd.2.2.2.2
                have e0 : decide ((0 : Int) < (k : Int)) = true := decide_eq_true (by omega)
                have E1 : IntKind.i64.wrap ((k : Int) - 1) = q := by rw [IntKind.wrap_i64]; omega
                have E2 : (k : Int) - 1 = q := by omega
                have E3 : (0 : Int) ≤ (q : Int) := by omega
                have E4 : (q : Int) < (n : Int) := by omega
                clear hd hp hkq
                rcases q2 : followsM width p x with _ | _
                · have HAT : Hid (headAt width l k = false) := Lib.hid (by rw [HS.out, q2, Bool.and_false])
                  rw [q2] at HF
                  clear q2
                  refine wp_region_later (by kernel_rfl) (by kernel_rfl) ?_
                  repeat (go_big_quiet_step ((first | with_reducible exact later_call (HO.out _) | with_reducible exact later_call (HF.out _))))
                  refine wpQuiet_nil ?_
                  intro w8 h8
                  have HB8 : Hid (Below w.heap.size w w8) := below_then HBR.out (later_below h8) HBR.out.size
                  clear h8
                  clear g0 g1 g2 g3 g4 e0 f0 f1 f2 f3 f4 E1 E2 E3 E4
                  go_wp2
                  go_ret
                  exact ⟨ret_bool (by rw [HDEF.out, headsUp_no HN.out hlt HAT.out]; simp), HB8.out⟩
                · have HAT : Hid (headAt width l k = true) := Lib.hid (by rw [HS.out, q2, D1.out, Q1.out]; rfl)
                  rw [q2] at HF
                  clear q2
                  refine wp_region_later (by kernel_rfl) (by kernel_rfl) ?_
                  repeat (go_big_quiet_step ((first | with_reducible exact later_call (HO.out _) | with_reducible exact later_call (HF.out _))))
                  refine wpQuiet_nil ?_
                  intro w8 h8
                  have HB8 : Hid (Below w.heap.size w w8) := below_then HBR.out (later_below h8) HBR.out.size
                  clear h8
                  clear g0 g1 g2 g3 g4 e0 f0 f1 f2 f3 f4 E1 E2 E3 E4
                  go_wp2
                  go_round
                  case rel => exact ⟨k + 1, by omega, by go_num, by rw [headsUp, HUP.out, HAT.out]; rfl, HB8.out⟩
                  case measure => simp [intOf]; omega
        · obtain rfl : k = n := by omega
          have HBR := Lib.hid hbr
          go_wp2
          go_ret
          exact ⟨ret_bool (by rw [HDEF.out, H4.out, HN.out, HUP.out]; rfl), HBR.out⟩
    · have H4 : Hid (decide (l.length ≤ 400) = false) := Lib.hid (by rw [HN.out]; exact decide_eq_false h4)
      go_wp2
      go_ret
      exact ⟨ret_bool (by rw [HDEF.out, H4.out]; rfl), Below.refl _ _⟩
set_option maxRecDepth 100000 in
set_option maxHeartbeats 4000000 in
theorem specHeadsOk_c (width : Int) (A : Option Addr) (c lo hi n : Nat) (l : List Hd) (w : World) (hr : Rd w lo hi A (hds l)) (hn : l.length = n) (hl : n + sumBy Hd.bulk l ≤ 1048576) :
    Calls Try.prog 49 #[.int .i64 width, .slice A n c] w fun e w' => e = .returned (.bool (headsOk width l)) ∧ Below w.heap.size w w' := by
  have HN := Lib.hid hn
  have HL := Lib.hid hl
  have HR := Lib.hid hr
  have HDEF : Hid (headsOk width l = (inR width 1 32 && decide (l.length ≤ 400) && headsUp width l l.length)) := Lib.hid rfl
  have hn2 : n ≤ 1048576 := by omega
  clear hn hl hr
  go_enter Try.func49, Try.ntmps49
  go_wp2_with fail
  refine (l02Width_c width _).mono ?_
  rintro e w1 ⟨rfl, rfl⟩
  rcases hq : inR width 1 32 with _ | _
  · go_wp2
    go_ret
    exact ⟨ret_bool (by rw [HDEF.out, hq]; rfl), Below.refl _ _⟩
  · rw [hq] at HDEF
    clear hq
    by_cases h4 : n ≤ 400
    · have H4 : Hid (decide (l.length ≤ 400) = true) := Lib.hid (by rw [HN.out]; exact decide_eq_true h4)
      go_wp2
      go_loopw [5] (fun i wx => ∃ k : Nat, k ≤ n ∧ i = .int .i64 k ∧ headsUp width l k = true ∧ Below w.heap.size w wx) (fun i _ => n - (intOf i).toNat)
      case atStart => exact ⟨0, Nat.zero_le _, rfl, rfl, Below.refl _ _⟩
      case round =>
        obtain ⟨k, hk, rfl, hup, hbr⟩ := hrel
        have HUP := Lib.hid hup
        clear hup
        by_cases hlt : k < n
        · obtain ⟨b, off, x, rfl, hb, hx, hc⟩ := hd_cells (HR.out.below hbr) (k := k) (by rw [HN.out]; exact hlt)
          have HX := Lib.hid hx
          have HBR := Lib.hid hbr
          have hbk : Hid (x.bulk ≤ 1048576) := Lib.hid (by have := sumBy_get Hd.bulk hx; have := HL.out; omega)
          have hI : (k : Int) < n := by omega
          have g0 : ∀ v : Later wr, v.v.cell? ⟨b, off + k * 5, none⟩ = some (.int .i64 x.num) := fun v => (later_cell v _ _ hb).trans hc.1
          have g1 : ∀ v : Later wr, v.v.cell? ⟨b, off + k * 5 + 1, none⟩ = some (.int .i64 x.size) := fun v => (later_cell v _ _ hb).trans hc.2.1
          have g2 : ∀ v : Later wr, v.v.cell? ⟨b, off + k * 5 + 2, none⟩ = some (.string x.root) := fun v => (later_cell v _ _ hb).trans hc.2.2.1
          have g3 : ∀ v : Later wr, v.v.cell? ⟨b, off + k * 5 + 3, none⟩ = some (.int .i64 x.taken) := fun v => (later_cell v _ _ hb).trans hc.2.2.2.1
          have g4 : ∀ v : Later wr, v.v.cell? ⟨b, off + k * 5 + 4, none⟩ = some (.string x.troot) := fun v => (later_cell v _ _ hb).trans hc.2.2.2.2
          clear hc hx hbr
          have HO := Lib.hid (fun W => specHeadOk_c width x W hbk.out)
          go_wp2_with fail
          rcases q1 : headOk width x with _ | _
          · have HAT := Lib.hid (headAt_ok (width := width) HX.out q1)
            rw [q1] at HO
            clear q1
            refine wp_region_later (by kernel_rfl) (by kernel_rfl) ?_
            repeat (go_big_quiet_step ((with_reducible exact later_call (HO.out _))))
            refine wpQuiet_nil ?_
            intro w8 h8
            have HB8 : Hid (Below w.heap.size w w8) := below_then HBR.out (later_below h8) HBR.out.size
            clear h8
            clear g0 g1 g2 g3 g4
            go_wp2
            go_ret
            exact ⟨ret_bool (by rw [HDEF.out, headsUp_no HN.out hlt HAT.out]; simp), HB8.out⟩
          · have Q1 := Lib.hid q1
            rw [q1] at HO
            clear q1
            rcases d1 : (x.num == (k : Int)) with _ | _
            · have n1 := bne_of_beq d1
              have HAT := Lib.hid (headAt_num (width := width) HX.out d1)
              refine wp_region_later (by kernel_rfl) (by kernel_rfl) ?_
              repeat (go_big_quiet_step ((with_reducible exact later_call (HO.out _))))
              refine wpQuiet_nil ?_
              intro w8 h8
              have HB8 : Hid (Below w.heap.size w w8) := below_then HBR.out (later_below h8) HBR.out.size
              clear h8
              clear g0 g1 g2 g3 g4
              go_wp2
              go_ret
              exact ⟨ret_bool (by rw [HDEF.out, headsUp_no HN.out hlt HAT.out]; simp), HB8.out⟩
            · have n1 := bne_of_beq d1
              have D1 := Lib.hid d1
              rcases (show k = 0 ∨ 0 < k by omega) with hk0 | hk0
              · have HAT : Hid (headAt width l k = true) := Lib.hid (by subst hk0; rw [headAt_0 HX.out, D1.out, Q1.out]; rfl)
                subst hk0
                have n0 : (x.num != 0) = false := n1
                have e0 := hI
                clear n1
                simp only [Nat.zero_mul, Nat.add_zero] at g0 g1 g2 g3 g4
                refine wp_region_later (by kernel_rfl) (by kernel_rfl) ?_
                repeat (go_big_quiet_step ((with_reducible exact later_call (HO.out _))))
                refine wpQuiet_nil ?_
                intro w8 h8
                have HB8 : Hid (Below w.heap.size w w8) := below_then HBR.out (later_below h8) HBR.out.size
                clear h8
                clear g0 g1 g2 g3 g4 e0 n0
                go_wp2
                go_round
                case rel => exact ⟨0 + 1, by omega, rfl, by rw [headsUp, HUP.out, HAT.out]; rfl, HB8.out⟩
                case measure => simp [intOf]; omega
              · obtain ⟨q, hkq⟩ : ∃ q, k = q + 1 := ⟨k - 1, by omega⟩
                obtain ⟨b2, off2, p, e2, hb2, hp, hd⟩ := hd_cells (HR.out.below HBR.out) (k := q) (by rw [HN.out]; omega)
                cases e2
                have HF := Lib.hid (fun W => specFollows_c width p x W (by have := sumBy_two Hd.bulk HX.out hp hkq; have := HL.out; omega))
                have HS := Lib.hid (headAt_s (width := width) HX.out hp hkq)
                have f0 : ∀ v : Later wr, v.v.cell? ⟨b, off + q * 5, none⟩ = some (.int .i64 p.num) := fun v => (later_cell v _ _ hb).trans hd.1
                have f1 : ∀ v : Later wr, v.v.cell? ⟨b, off + q * 5 + 1, none⟩ = some (.int .i64 p.size) := fun v => (later_cell v _ _ hb).trans hd.2.1
                have f2 : ∀ v : Later wr, v.v.cell? ⟨b, off + q * 5 + 2, none⟩ = some (.string p.root) := fun v => (later_cell v _ _ hb).trans hd.2.2.1
                have f3 : ∀ v : Later wr, v.v.cell? ⟨b, off + q * 5 + 3, none⟩ = some (.int .i64 p.taken) := fun v => (later_cell v _ _ hb).trans hd.2.2.2.1
                have f4 : ∀ v : Later wr, v.v.cell? ⟨b, off + q * 5 + 4, none⟩ = some (.string p.troot) := fun v => (later_cell v _ _ hb).trans hd.2.2.2.2
                have e0 : decide ((0 : Int) < (k : Int)) = true := decide_eq_true (by omega)
                have E1 : IntKind.i64.wrap ((k : Int) - 1) = q := by rw [IntKind.wrap_i64]; omega
                have E2 : (k : Int) - 1 = q := by omega
                have E3 : (0 : Int) ≤ (q : Int) := by omega
                have E4 : (q : Int) < (n : Int) := by omega
                clear hd hp hkq
                rcases q2 : followsM width p x with _ | _
                · have HAT : Hid (headAt width l k = false) := Lib.hid (by rw [HS.out, q2, Bool.and_false])
                  rw [q2] at HF
                  clear q2
                  refine wp_region_later (by kernel_rfl) (by kernel_rfl) ?_
                  repeat (go_big_quiet_step ((first | with_reducible exact later_call (HO.out _) | with_reducible exact later_call (HF.out _))))
                  refine wpQuiet_nil ?_
                  intro w8 h8
                  have HB8 : Hid (Below w.heap.size w w8) := below_then HBR.out (later_below h8) HBR.out.size
                  clear h8
                  clear g0 g1 g2 g3 g4 e0 f0 f1 f2 f3 f4 E1 E2 E3 E4
                  go_wp2
                  go_ret
                  exact ⟨ret_bool (by rw [HDEF.out, headsUp_no HN.out hlt HAT.out]; simp), HB8.out⟩
                · have HAT : Hid (headAt width l k = true) := Lib.hid (by rw [HS.out, q2, D1.out, Q1.out]; rfl)
                  rw [q2] at HF
                  clear q2
                  refine wp_region_later (by kernel_rfl) (by kernel_rfl) ?_
                  repeat (go_big_quiet_step ((first | with_reducible exact later_call (HO.out _) | with_reducible exact later_call (HF.out _))))
                  refine wpQuiet_nil ?_
                  intro w8 h8
                  have HB8 : Hid (Below w.heap.size w w8) := below_then HBR.out (later_below h8) HBR.out.size
                  clear h8
                  clear g0 g1 g2 g3 g4 e0 f0 f1 f2 f3 f4 E1 E2 E3 E4
                  go_wp2
                  go_round
                  case rel => exact ⟨k + 1, by omega, by go_num, by rw [headsUp, HUP.out, HAT.out]; rfl, HB8.out⟩
                  case measure => simp [intOf]; omega
        · obtain rfl : k = n := by omega
          have HBR := Lib.hid hbr
          go_wp2
          go_ret
          exact ⟨ret_bool (by rw [HDEF.out, H4.out, HN.out, HUP.out]; rfl), HBR.out⟩
    · have H4 : Hid (decide (l.length ≤ 400) = false) := Lib.hid (by rw [HN.out]; exact decide_eq_false h4)
      go_wp2
      go_ret
      exact ⟨ret_bool (by rw [HDEF.out, H4.out]; rfl), Below.refl _ _⟩
end Go.Proofs.Ytojjjhbiccgjkaa
