/- PadOf of the reference. -/
import Derived.Test.YtojjjhbiccgjkaaRef4
import Derived.Laws.OwnMore
namespace Go.Proofs.Ytojjjhbiccgjkaa
set_option linter.unusedVariables false
set_option linter.unusedSimpArgs false
open Go.RowKit

def lenOf : Value → Nat
  | .slice _ n _ => n
  | _ => 0
def padZ (j : Nat) : List UInt8 := 128 :: List.replicate j 0
theorem padZ_next (j : Nat) : padZ (j + 1) = padZ j ++ [0] := by rw [padZ, padZ, List.replicate_succ', List.cons_append]
def padB (n i : Nat) : UInt8 := UInt8.ofNat (n / 256 ^ i % 256)
def padE (n : Nat) : Nat → List UInt8
  | 0 => []
  | j + 1 => padE n j ++ [padB n (7 - j)]
theorem padE_8 (n : Nat) (h : n ≤ 4000) : padE n 8 = [0, 0, 0, 0, 0, 0, UInt8.ofNat (n / 256 % 256), UInt8.ofNat (n % 256)] := by
  have e : ∀ i, 65536 ≤ 256 ^ i → padB n i = 0 := fun i hi => by
    rw [padB, Nat.div_eq_of_lt (by omega)]; rfl
  show [padB n 7, padB n 6, padB n 5, padB n 4, padB n 3, padB n 2, padB n 1, padB n 0] = _
  rw [e 7 (by decide), e 6 (by decide), e 5 (by decide), e 4 (by decide), e 3 (by decide), e 2 (by decide)]
  simp [padB]
theorem wordText_small (n : Nat) (h : n ≤ 4000) : wordText n = ⟨#[0, 0, UInt8.ofNat (n / 256 % 256), UInt8.ofNat (n % 256)]⟩ := by
  have e1 : (n : Int) / 16777216 = 0 := by omega
  have e2 : (n : Int) / 65536 % 256 = 0 := by omega
  have e3 : (n : Int) / 256 % 256 = (n / 256 % 256 : Nat) := by omega
  have e4 : (n : Int) % 256 = (n % 256 : Nat) := by omega
  rw [wordText, e1, e2, e3, e4]
  rfl
theorem padE_all (n : Nat) (h : n ≤ 4000) (z : Nat) : ((⟨(padZ z ++ padE n 8).toArray⟩ : ByteArray)) = ⟨#[128]⟩ ++ zerosT z ++ wordText 0 ++ wordText n := by
  have hz : Lib.repeatL [0] z = List.replicate z (0 : UInt8) := by
    have := Lib.repeatL_replicate 0 1 z
    simpa using this
  have w0 : wordText 0 = ⟨#[0, 0, 0, 0]⟩ := rfl
  rw [padE_8 n h, w0, wordText_small n h, zerosT, hz, padZ]
  apply ByteArray.ext
  simp only [ByteArray.data_append]
  apply Array.toList_inj.1
  simp
set_option maxRecDepth 100000 in
set_option maxHeartbeats 400000 in
theorem specPadOf_c (n : Nat) (w : World) (hn : n ≤ 4000) : Calls Try.prog 159 #[.int .i64 n] w fun e w' => e = .returned (.tuple #[.string (padT n), .bool true]) ∧ Below w.heap.size w w' := by
  obtain ⟨z, hz⟩ : ∃ z, z = (119 - n % 64) % 64 := ⟨_, rfl⟩
  have hz2 : z < 64 := by omega
  have hrow : (w.alloc (.cells #[.int .u8 128] 5)).ownsRow w.heap.size 5 1 (.slice (some ⟨w.heap.size, 0, none⟩) 1 1) 1 (Lib.byteCells (padZ 0)) :=
    World.ownsRow_lit (base := w.heap.size) (e := 5) (size := 1) w #[.int .u8 128] 1 (Nat.le_refl _) (by unfold maxLen; omega) rfl
  have hbl : Below w.heap.size w (w.alloc (.cells #[.int .u8 128] 5)) := (Below.refl _ _).alloc (Nat.le_refl _) _
  have HROW := Lib.hid hrow
  have HBL := Lib.hid hbl
  have HZ := Lib.hid hz
  have hin : inR (n : Int) 0 4000 = true := inR_true.2 (by omega)
  have HIN := Lib.hid hin
  clear hrow hbl hz hin
  go_enter Try.func159, Try.ntmps159
  go_wp2_with fail
  refine (l01In_c n 0 4000 _).mono ?_
  rintro e w1 ⟨rfl, rfl⟩
  rw [HIN.out]
  go_wp2
  go_loopw [4] (fun v wr => ∃ (j : Nat) (A0 : Option Addr) (c0 : Nat), j ≤ z ∧ v = .slice A0 (1 + j) c0 ∧ wr.ownsRow w.heap.size 5 1 (.slice A0 (1 + j) c0) (1 + j) (Lib.byteCells (padZ j)) ∧ Below w.heap.size w wr) (fun v _ => 65 - lenOf v)
  case atStart => exact ⟨0, _, 1, Nat.zero_le _, rfl, HROW.out, HBL.out⟩
  case round =>
    obtain ⟨j, A0, c0, hj, rfl, how, hb⟩ := hrel
    have HOW := Lib.hid how
    have HB := Lib.hid hb
    have hzr : w.heap.size ≤ wr.heap.size := hb.size
    clear how hb
    obtain ⟨q, hq⟩ : ∃ q, q = 1 + j := ⟨_, rfl⟩
    obtain ⟨r, hr⟩ : ∃ r, r = (n + q + 8) % 64 := ⟨_, rfl⟩
    have E3 : ((n : Int) + q + 8).tmod 64 = r := by rw [Int.tmod_eq_emod_of_nonneg (by omega)]; omega
    have hqb : (q : Int) ≤ 64 := by omega
    rw [← hq] at HOW ⊢
    by_cases hlt : j < z
    · have hr2 : (r : Int) ≠ 0 := by have := HZ.out; omega
      have HR := Lib.hid hr
      have HQ := Lib.hid hq
      clear hr hq
      go_wp2_with (at_builtin; refine appBy rfl _ _ rfl w.heap.size _ _ _ rfl (HOW.out.alloc _) _ 1 1 0 _ [(0 : UInt8)] rfl rfl (NewBox.rd (cs := Lib.byteCells [(0 : UInt8)]) (NewBox.new wr _ _)) (fun h => by cases h) (by omega) (by first | omega | (simp; done) | (simp; omega)) ?_)
      intro v2 w2 hown2 hg2
      have hon := grown_only (HOW.out.alloc _) hg2
      obtain ⟨A2, c2, rfl, _, _, _⟩ := ownsRow_slice hown2
      have HB2 : Hid (Below w.heap.size w w2) := below_only (HB.out.alloc hzr _) hon (Nat.le_refl _) (by simp; omega)
      rw [← bys_app, ← padZ_next] at hown2
      have HO2 := Lib.hid hown2
      clear hown2 hg2 hon HOW
      go_wp2
      go_roundw
      case rel =>
        have h := HQ.out
        exact ⟨j + 1, A2, c2, by omega, by rw [show 1 + (j + 1) = q + 1 by omega], by rw [show 1 + (j + 1) = q + 1 by omega]; exact HO2.out, HB2.out⟩
      case measure => show 65 - (q + 1) < 65 - q; omega
    · obtain rfl : j = z := by omega
      obtain rfl : r = 0 := by have := HZ.out; omega
      have HQ := Lib.hid hq
      clear hr hq
      go_wp2
      go_loopw [4, 5] (fun v i wx => ∃ (p m : Nat) (A1 : Option Addr) (c1 : Nat), p ≤ 8 ∧ m = q + p ∧ i = .int .i64 (7 - (p : Int)) ∧ v = .slice A1 m c1 ∧ wx.ownsRow w.heap.size 5 1 (.slice A1 m c1) m (Lib.byteCells (padZ j ++ padE n p)) ∧ Below w.heap.size w wx) (fun _ i _ => (intOf i + 1).toNat)
      case atStart => exact ⟨0, q, _, _, Nat.zero_le _, rfl, rfl, rfl, by rw [padE, List.append_nil]; exact HOW.out, HB.out⟩
      case round =>
        clear HOW HB
        obtain ⟨p, m, A1, c1, hp, hm, rfl, rfl, how, hb⟩ := hrel
        have HOW := Lib.hid how
        have HB := Lib.hid hb
        have HM := Lib.hid hm
        have hzx := hb.size
        have hmb : (m : Int) ≤ 80 := by omega
        clear how hb hm
        by_cases hlp : p < 8
        · obtain ⟨g, hg⟩ : ∃ g, g = 7 - p := ⟨_, rfl⟩
          have hgp : 7 - (p : Int) = (g : Int) := by omega
          rw [hgp]
          have hg7 : (g : Int) ≤ 7 := by omega
          have HG := Lib.hid hg
          have HGP := Lib.hid hgp
          clear hg hgp
          go_wp2
          go_loop [6, 7] (fun x y => ∃ u : Nat, u ≤ g ∧ y = .int .i64 u ∧ x = .int .i64 ((n / 256 ^ u : Nat) : Int)) (fun _ y => g - (intOf y).toNat)
          case atStart => exact ⟨0, Nat.zero_le _, rfl, by simp⟩
          case round =>
            obtain ⟨u, hu, rfl, rfl⟩ := hrel
            have hx : n / 256 ^ u ≤ 4000 := Nat.le_trans (Nat.div_le_self _ _) hn
            have hnx : n / 256 ^ (u + 1) = n / 256 ^ u / 256 := by rw [Nat.pow_succ, Nat.div_div_eq_div_mul]
            have hpb : (padB n u).toNat = n / 256 ^ u % 256 := by
              rw [padB, UInt8.toNat_ofNat']
              omega
            generalize n / 256 ^ u = X at *
            have E4 : (X : Int).tdiv 256 = (X / 256 : Nat) := by rw [Int.tdiv_eq_ediv_of_nonneg (by omega)]; omega
            have E5 : (X : Int).tmod 256 = ((padB n u).toNat : Int) := by rw [Int.tmod_eq_emod_of_nonneg (by omega), hpb]; omega
            have E6 := byte_lt (padB n u)
            have HNX := Lib.hid hnx
            clear hnx hpb
            by_cases hlu : u < g
            · clear E5
              obtain ⟨Y, hY⟩ : ∃ Y, Y = X / 256 := ⟨_, rfl⟩
              rw [← hY] at E4
              have HY := Lib.hid hY
              have hY2 : (Y : Int) ≤ 4000 := by omega
              clear hY
              go_wp2
              go_round
              case rel => exact ⟨u + 1, by omega, by go_num, by rw [HNX.out, HY.out]⟩
              case measure => simp [intOf]; omega
            · obtain rfl : u = g := by omega
              have HP : Hid (padE n (p + 1) = padE n p ++ [padB n u]) := by rw [Hid, HG.out]; rfl
              clear E4 HNX
              generalize padB n u = bt at *
              go_wp2_with (at_builtin; refine appBy rfl _ _ rfl w.heap.size _ _ _ rfl (HOW.out.alloc _) _ 1 1 0 _ [bt] rfl rfl (NewBox.rd (cs := Lib.byteCells [bt]) (NewBox.new wr _ _)) (fun h => by cases h) (by omega) (by first | omega | (simp; done) | (simp; omega)) ?_)
              intro v2 w2 hown2 hg2
              have hon := grown_only (HOW.out.alloc _) hg2
              obtain ⟨A2, c2, rfl, _, _, _⟩ := ownsRow_slice hown2
              have HB2 : Hid (Below w.heap.size w w2) := below_only (HB.out.alloc hzx _) hon (Nat.le_refl _) (by simp; omega)
              rw [← bys_app, List.append_assoc, ← HP.out] at hown2
              have HO2 := Lib.hid hown2
              clear hown2 hg2 hon HOW
              go_wp2
              go_roundw
              case rel =>
                have h1 := HGP.out
                have h2 := HM.out
                exact ⟨p + 1, m + 1, A2, c2, by omega, by omega, by rw [show (7 : Int) - ((p + 1 : Nat) : Int) = (u : Int) - 1 by omega], rfl, HO2.out, HB2.out⟩
              case measure => first | (simp [intOf]; done) | (simp [intOf]; omega)
        · obtain rfl : p = 8 := by omega
          have hr := (Own.of_ownsRow HOW.out).rd
          have hml : (padZ j ++ padE n 8).length = m := by
            have h := HOW.out.1
            rwa [bys_len, Nat.mul_one] at h
          obtain ⟨b, off, rfl, _, _, _, hcs⟩ := hr (by rw [padZ]; simp [Lib.byteCells])
          have hcb := run_convert_bytes_back (P := Try.prog) wr 119 9 5 ⟨b, off, none⟩ c1 (padZ j ++ padE n 8) Try.underlying119 Try.underlying5 Try.underlying9 (fun i hi => by
            have h := hcs i (.int .u8 ((padZ j ++ padE n 8)[i].toNat : Int)) (by simp only [Lib.byteCells, List.getElem?_map, List.getElem?_eq_getElem hi, Option.map_some])
            rwa [Addr.add_lit])
          rw [hml, padE_all n hn j] at hcb
          have hP : padT n = ⟨#[128]⟩ ++ zerosT j ++ wordText 0 ++ wordText n := by rw [padT, ← HZ.out]
          rw [← hP] at hcb
          clear hr hcs hml hP
          go_wp2
          refine bodyPost_ret (v := .tuple #[.string (padT n), .bool true]) (by simp [results, Try.results159, go_sem]) rfl ?_
          exact ⟨rfl, HB.out⟩
end Go.Proofs.Ytojjjhbiccgjkaa
