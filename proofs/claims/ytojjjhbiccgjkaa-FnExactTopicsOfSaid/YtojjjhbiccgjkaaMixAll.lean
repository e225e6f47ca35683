/- The blocks of a text, mixed into a state. -/
import Derived.Test.YtojjjhbiccgjkaaMix
import Derived.Test.YtojjjhbiccgjkaaBytes
namespace Go.Proofs.Ytojjjhbiccgjkaa
set_option linter.unusedVariables false
set_option linter.unusedSimpArgs false
open Go.RowKit

def wAt (t : ByteArray) (k : Nat) : Int := if h : k + 4 ≤ t.size then wordAt t k h else 0
theorem wAt_w (t : ByteArray) (k : Nat) : 0 ≤ wAt t k ∧ wAt t k < 4294967296 := by
  unfold wAt
  split
  · exact wordAt_w t k _
  · omega
theorem wAt_eq (t : ByteArray) (k : Nat) (h : k + 4 ≤ t.size) : wordAt t k h = wAt t k := by rw [wAt, dif_pos h]
theorem wAt_extract (t : ByteArray) (a b k : Nat) (hb : b ≤ t.size) (h : a + k + 4 ≤ b) : wAt (t.extract a b) k = wAt t (a + k) := by
  have hz : (t.extract a b).size = b - a := by rw [ByteArray.size_extract]; omega
  rw [wAt, dif_pos (by rw [hz]; omega), wAt, dif_pos (by omega)]
  unfold wordAt
  simp only [ByteArray.getElem_extract, Nat.add_assoc]
def blockAt (t : ByteArray) (o : Nat) : List Int := (List.range 16).map fun i : Nat => wAt t (o + 4 * i)
def blockUp (t : ByteArray) (o k : Nat) : List Int := (List.range 16).map fun i : Nat => if i < k then wAt t (o + 4 * i) else 0
theorem blockUp_len (t : ByteArray) (o k : Nat) : (blockUp t o k).length = 16 := by simp [blockUp]
theorem blockAt_wds (t : ByteArray) (o : Nat) : Wds 16 (blockAt t o) := ⟨by simp [blockAt], fun x hx => by
  obtain ⟨i, _, rfl⟩ := List.mem_map.1 hx
  exact wAt_w _ _⟩
theorem blockUp_set (t : ByteArray) (o k : Nat) (h : k < 16) : (blockUp t o k).set k (wAt t (o + 4 * k)) = blockUp t o (k + 1) := by
  apply List.ext_getElem?
  intro i
  by_cases h1 : k = i
  · subst h1
    rw [List.getElem?_set_self (by rw [blockUp_len]; exact h)]
    simp [blockUp, h]
  · rw [List.getElem?_set_ne h1]
    by_cases h2 : i < 16
    · simp only [blockUp, List.getElem?_map, List.getElem?_range h2, Option.map_some]
      by_cases h3 : i < k
      · rw [if_pos h3, if_pos (by omega)]
      · rw [if_neg h3, if_neg (by omega)]
    · rw [List.getElem?_eq_none (by rw [blockUp_len]; omega), List.getElem?_eq_none (by rw [blockUp_len]; omega)]
theorem blockUp_all (t : ByteArray) (o : Nat) : blockUp t o 16 = blockAt t o := by
  apply List.map_congr_left
  intro i hi
  rw [List.mem_range] at hi
  rw [if_pos hi]
def mixText (s : List Int) (t : ByteArray) : Nat → List Int
  | 0 => s
  | k + 1 => mixAll1 (mixText s t k) (blockAt t (64 * k))
theorem mixText_w {s : List Int} (h : Wds 8 s) (t : ByteArray) : ∀ k, Wds 8 (mixText s t k)
  | 0 => h
  | k + 1 => mixAll1_w (mixText_w h t k)
def szOf : Value → Nat
  | .string s => s.size
  | _ => 0

/-- where the mixing of a text stands -/
structure StAt (w : World) (s : List Int) (wx : World) : Prop where
  below : Below w.heap.size w wx
  s : NewBox wx w.heap.size (ws s)
  z : NewBox wx (w.heap.size + 1) (ws [0, 0, 0, 0, 0, 0, 0, 0])
theorem StAt.next {w : World} {s : List Int} {wx wy : World} (h : StAt w s wx) (hb : Below wx.heap.size wx wy) : StAt w s wy := ⟨below_then h.below hb h.below.size, h.s.below hb, h.z.below hb⟩
theorem StAt.new (w : World) (s : List Int) (t1 t2 : TypeId) : StAt w s ((w.alloc (.cells (ws s).toArray t1)).alloc (.cells (ws [0, 0, 0, 0, 0, 0, 0, 0]).toArray t2)) := by
  have n0 := NewBox.new w (ws s).toArray t1
  have n1 := NewBox.new (w.alloc (.cells (ws s).toArray t1)) (ws [0, 0, 0, 0, 0, 0, 0, 0]).toArray t2
  have z : ∀ (w : World) (o : Obj), (w.alloc o).heap.size = w.heap.size + 1 := fun w o => by simp
  simp only [z] at n1
  exact ⟨((Below.refl _ _).alloc (Nat.le_refl _) _).alloc (by simp only [z]; omega) _, n0.alloc _, n1⟩

set_option maxRecDepth 100000 in
set_option maxHeartbeats 4000000 in
theorem mixAll_c' (s S : List Int) (t : ByteArray) (w : World) (hs : Wds 8 s) (ht : t.size ≤ 100000) (hS : S = mixText s t (t.size / 64)) : Calls Try.prog 164 #[.agg (ws s).toArray, .string t] w fun e w' => e = .returned (.agg (ws S).toArray) ∧ Below w.heap.size w w' := by
  have hM : ∀ W, W = ((w.alloc (.cells (ws s).toArray 171)).alloc (.cells (ws [0, 0, 0, 0, 0, 0, 0, 0]).toArray 171)) → StAt w s W := by
    rintro W rfl
    exact StAt.new w s _ _
  have HM := Lib.hid hM
  clear hM
  obtain ⟨a0, a1, a2, a3, a4, a5, a6, a7, es⟩ := list8 hs.1
  have HS := Lib.hid hs
  have HSS := Lib.hid hS
  have HES := Lib.hid es
  go_enter Try.func164, Try.ntmps164
  simp only [es, ws, List.map_cons, List.map_nil]
  clear hs hS es
  go_wp2
  have HEX : Hid (t.extract 0 t.size = t) := by rw [Hid]; simp
  go_loopw [1, 5] (fun v _ wx => ∃ k : Nat, 64 * k ≤ t.size ∧ v = .string (t.extract (64 * k) t.size) ∧ StAt w (mixText s t k) wx) (fun v _ _ => szOf v)
  case atStart => exact ⟨0, Nat.zero_le _, by rw [Nat.mul_zero, HEX.out], HM.out _ (by rw [HES.out]; rfl)⟩
  case round =>
    clear HM
    obtain ⟨k, hk, rfl, hA⟩ := hrel
    have HV : Hid (Wds 8 (mixText s t k)) := mixText_w HS.out t k
    have hqz : (t.extract (64 * k) t.size).size = t.size - 64 * k := by rw [ByteArray.size_extract]; omega
    have hqe : ∀ i, i < 16 → 64 ≤ t.size - 64 * k → wAt (t.extract (64 * k) t.size) (4 * i) = wAt t (64 * k + 4 * i) := fun i hi h64 => wAt_extract t _ _ _ (Nat.le_refl _) (by omega)
    have hqn : 64 ≤ t.size - 64 * k → (t.extract (64 * k) t.size).extract 64 (t.extract (64 * k) t.size).size = t.extract (64 * (k + 1)) t.size := fun h => by
      rw [hqz, ByteArray.extract_extract]
      congr 1 <;> omega
    have hmk : mixText s t (k + 1) = mixAll1 (mixText s t k) (blockAt t (64 * k)) := rfl
    have HQE := Lib.hid hqe
    have HQN := Lib.hid hqn
    have HMK := Lib.hid hmk
    clear hqe hqn hmk
    obtain ⟨q, hq⟩ : ∃ q, q = t.extract (64 * k) t.size := ⟨_, rfl⟩
    rw [← hq] at hqz
    have HQZ := Lib.hid hqz
    have hq0 : (q.size : Int) ≤ 100000 := by omega
    have HQ := Lib.hid hq
    rw [← hq]
    clear hq hqz
    have HA := Lib.hid hA
    have HK := Lib.hid hk
    clear hA hk HEX
    by_cases h64 : 64 ≤ (q.size : Int)
    · have h64n : 64 ≤ t.size - 64 * k := by have := HQZ.out; omega
      have H64 := Lib.hid h64n
      clear ht h64n
      go_wp2
      have hW0 : ∀ W, W = wr.alloc (.cells #[.int .u32 0, .int .u32 0, .int .u32 0, .int .u32 0, .int .u32 0, .int .u32 0, .int .u32 0, .int .u32 0, .int .u32 0, .int .u32 0, .int .u32 0, .int .u32 0, .int .u32 0, .int .u32 0, .int .u32 0, .int .u32 0] 205) → StAt w (mixText s t k) W ∧ NewBox W wr.heap.size (ws (blockUp t (64 * k) 0)) := by
        rintro W rfl
        exact ⟨HA.out.next ((Below.refl _ _).alloc (Nat.le_refl _) _), NewBox.new wr _ _⟩
      go_loopw [12] (fun i wx => ∃ j : Nat, j ≤ 16 ∧ i = .int .i64 j ∧ StAt w (mixText s t k) wx ∧ NewBox wx wr.heap.size (ws (blockUp t (64 * k) j))) (fun i _ => 16 - (intOf i).toNat)
      case atStart => exact ⟨0, Nat.zero_le _, rfl, hW0 _ rfl⟩
      case round =>
        clear hW0
        obtain ⟨j, hj, rfl, hB, hX⟩ := hrel
        have HB := Lib.hid hB
        have HX := Lib.hid hX
        clear hB hX
        by_cases hlj : j < 16
        · obtain ⟨m4, hm4⟩ : ∃ m, m = 4 * j := ⟨_, rfl⟩
          have hfit : m4 + 4 ≤ q.size := by omega
          have E2 : 4 * (j : Int) = m4 := by omega
          have hB1 : (j : Int) < 16 := by omega
          have hwv : wordAt q m4 hfit = wAt t (64 * k + 4 * j) := by
            rw [wAt_eq, hm4, HQ.out]
            exact HQE.out j hlj H64.out
          have HWV := Lib.hid hwv
          clear hwv hm4
          go_wp2_with fail
          refine (implWordAt_c q m4 _ (by unfold maxLen; omega) hfit).mono ?_
          rintro e w1 ⟨rfl, hb1⟩
          rw [HWV.out]
          have hX := HX.out.below hb1
          have HB2 := Lib.hid (HB.out.next hb1)
          have hcx := hX.word (show j < _ by rw [blockUp_len]; exact hlj)
          have hfx := hX.2.2 j
          have HX2 := Lib.hid hX
          clear hb1 hX HB HX
          have hbs := blockUp_set t (64 * k) j hlj
          have HBS := Lib.hid hbs
          clear hbs
          generalize wAt t (64 * k + 4 * j) = y at *
          generalize (blockUp t (64 * k) j)[j]'_ = y0 at *
          go_wp2_with fail
          have hwr := HA.out
          go_round
          case rel =>
            refine ⟨j + 1, by omega, by go_num, ⟨HB2.out.below.setCell (by have := hwr.below.size; show _ ≤ _; simp only; omega) _, HB2.out.s.setCell (by have := hwr.s.1; show _ ≠ _; simp only; omega) _, HB2.out.z.setCell (by have := hwr.z.1; show _ ≠ _; simp only; omega) _⟩, ?_⟩
            rw [← HBS.out]
            exact HX2.out.setW (by rw [blockUp_len]; exact hlj) _
          case measure => simp [intOf]; omega
        · obtain rfl : j = 16 := by omega
          have hX := HX.out
          rw [blockUp_all] at hX
          have hB := HB.out
          have hn := HV.out
          have hbw := blockAt_wds t (64 * k)
          have hM1 : Hid (mixText s t (k + 1) = mixAll1 (mixText s t k) (blockAt t (64 * k))) := HMK
          generalize mixText s t k = st at *
          generalize blockAt t (64 * k) = bl at *
          have HMX := fun W => mixed_c st bl W hn hbw
          have hmw : Wds 8 (mixAll1 st bl) := mixAll1_w hn
          generalize mixAll1 st bl = nx at *
          obtain ⟨c0, c1, c2, c3, c4, c5, c6, c7, rfl⟩ := list8 hn.1
          obtain ⟨b0, b1, b2, b3, b4, b5, b6, b7, b8, b9, b10, b11, b12, b13, b14, b15, rfl⟩ := list16 hbw.1
          obtain ⟨n0, n1, n2, n3, n4, n5, n6, n7, rfl⟩ := list8 hmw.1
          simp only [ws, List.map_cons, List.map_nil] at HMX
          have HMX2 := Lib.hid HMX
          have e0 := hB.s.cell (o := 0) (v := .int .u32 c0) rfl
          have e1 := hB.s.cell (o := 1) (v := .int .u32 c1) rfl
          have e2 := hB.s.cell (o := 2) (v := .int .u32 c2) rfl
          have e3 := hB.s.cell (o := 3) (v := .int .u32 c3) rfl
          have e4 := hB.s.cell (o := 4) (v := .int .u32 c4) rfl
          have e5 := hB.s.cell (o := 5) (v := .int .u32 c5) rfl
          have e6 := hB.s.cell (o := 6) (v := .int .u32 c6) rfl
          have e7 := hB.s.cell (o := 7) (v := .int .u32 c7) rfl
          have d0 := hX.cell (o := 0) (v := .int .u32 b0) rfl
          have d1 := hX.cell (o := 1) (v := .int .u32 b1) rfl
          have d2 := hX.cell (o := 2) (v := .int .u32 b2) rfl
          have d3 := hX.cell (o := 3) (v := .int .u32 b3) rfl
          have d4 := hX.cell (o := 4) (v := .int .u32 b4) rfl
          have d5 := hX.cell (o := 5) (v := .int .u32 b5) rfl
          have d6 := hX.cell (o := 6) (v := .int .u32 b6) rfl
          have d7 := hX.cell (o := 7) (v := .int .u32 b7) rfl
          have d8 := hX.cell (o := 8) (v := .int .u32 b8) rfl
          have d9 := hX.cell (o := 9) (v := .int .u32 b9) rfl
          have d10 := hX.cell (o := 10) (v := .int .u32 b10) rfl
          have d11 := hX.cell (o := 11) (v := .int .u32 b11) rfl
          have d12 := hX.cell (o := 12) (v := .int .u32 b12) rfl
          have d13 := hX.cell (o := 13) (v := .int .u32 b13) rfl
          have d14 := hX.cell (o := 14) (v := .int .u32 b14) rfl
          have d15 := hX.cell (o := 15) (v := .int .u32 b15) rfl
          have hfs := hB.s.2.2
          have HB2 := Lib.hid hB
          have HX2 := Lib.hid hX
          have HH := Lib.hid (And.intro hn (And.intro hbw hmw))
          clear hX HX hB HB HMX hn hbw hmw
          go_wp2_with fail
          refine (HMX2.out _).mono ?_
          rintro e w1 ⟨rfl, hb1⟩
          have hB3 := HB2.out.next hb1
          have f0 := hB3.s.cell (o := 0) (v := .int .u32 c0) rfl
          have f1 := hB3.s.cell (o := 1) (v := .int .u32 c1) rfl
          have f2 := hB3.s.cell (o := 2) (v := .int .u32 c2) rfl
          have f3 := hB3.s.cell (o := 3) (v := .int .u32 c3) rfl
          have f4 := hB3.s.cell (o := 4) (v := .int .u32 c4) rfl
          have f5 := hB3.s.cell (o := 5) (v := .int .u32 c5) rfl
          have f6 := hB3.s.cell (o := 6) (v := .int .u32 c6) rfl
          have f7 := hB3.s.cell (o := 7) (v := .int .u32 c7) rfl
          have hfs1 := hB3.s.2.2
          have HB3 := Lib.hid hB3
          clear hB3 hb1 e0 e1 e2 e3 e4 e5 e6 e7 d0 d1 d2 d3 d4 d5 d6 d7 d8 d9 d10 d11 d12 d13 d14 d15 hfs
          go_wp2_with fail
          go_round
          case rel =>
            obtain ⟨hN, hBe, ho⟩ := HB3.out.s.set8 HB3.out.below (Nat.le_refl _) n0 n1 n2 n3 n4 n5 n6 n7 _ rfl
            refine ⟨k + 1, by have := H64.out; have := HK.out; omega, ?_, ?_⟩
            · rw [HQ.out]; exact congrArg Value.string (HQN.out H64.out)
            · rw [hM1.out]; exact ⟨hBe, hN, HB3.out.z.only ho (by omega)⟩
          case measure => show (q.extract 64 q.size).size < q.size; rw [ByteArray.size_extract]; omega
    · have hS2 : S = mixText s t k := by
        have h1 := HQZ.out
        have h2 := HK.out
        have h3 : t.size / 64 = k := by omega
        rw [HSS.out, h3]
      have HS2 := Lib.hid hS2
      have hn : (mixText s t k).length = 8 := HV.out.1
      have hA := HA.out
      clear HV HQE HQN HMK HA hS2
      generalize mixText s t k = l at *
      obtain ⟨c0, c1, c2, c3, c4, c5, c6, c7, rfl⟩ := list8 hn
      clear hn ht
      have e0 := hA.s.cell (o := 0) (v := .int .u32 c0) rfl
      have e1 := hA.s.cell (o := 1) (v := .int .u32 c1) rfl
      have e2 := hA.s.cell (o := 2) (v := .int .u32 c2) rfl
      have e3 := hA.s.cell (o := 3) (v := .int .u32 c3) rfl
      have e4 := hA.s.cell (o := 4) (v := .int .u32 c4) rfl
      have e5 := hA.s.cell (o := 5) (v := .int .u32 c5) rfl
      have e6 := hA.s.cell (o := 6) (v := .int .u32 c6) rfl
      have e7 := hA.s.cell (o := 7) (v := .int .u32 c7) rfl
      have d0 := hA.z.cell (o := 0) (v := .int .u32 0) rfl
      have d1 := hA.z.cell (o := 1) (v := .int .u32 0) rfl
      have d2 := hA.z.cell (o := 2) (v := .int .u32 0) rfl
      have d3 := hA.z.cell (o := 3) (v := .int .u32 0) rfl
      have d4 := hA.z.cell (o := 4) (v := .int .u32 0) rfl
      have d5 := hA.z.cell (o := 5) (v := .int .u32 0) rfl
      have d6 := hA.z.cell (o := 6) (v := .int .u32 0) rfl
      have d7 := hA.z.cell (o := 7) (v := .int .u32 0) rfl
      have hf := hA.z.2.2
      have HA := Lib.hid hA
      clear hA
      go_wp2
      refine bodyPost_named fun W hW => ?_
      obtain ⟨hN, hB, _⟩ := HA.out.z.set8 HA.out.below (by omega) c0 c1 c2 c3 c4 c5 c6 c7 W hW
      clear hW
      have e0 := hN.cell (o := 0) (v := .int .u32 c0) rfl
      have e1 := hN.cell (o := 1) (v := .int .u32 c1) rfl
      have e2 := hN.cell (o := 2) (v := .int .u32 c2) rfl
      have e3 := hN.cell (o := 3) (v := .int .u32 c3) rfl
      have e4 := hN.cell (o := 4) (v := .int .u32 c4) rfl
      have e5 := hN.cell (o := 5) (v := .int .u32 c5) rfl
      have e6 := hN.cell (o := 6) (v := .int .u32 c6) rfl
      have e7 := hN.cell (o := 7) (v := .int .u32 c7) rfl
      refine bodyPost_ret (v := .agg #[.int .u32 c0, .int .u32 c1, .int .u32 c2, .int .u32 c3, .int .u32 c4, .int .u32 c5, .int .u32 c6, .int .u32 c7]) (by simp [results, Try.results164, go_sem, e0, e1, e2, e3, e4, e5, e6, e7]) rfl ?_
      exact ⟨by rw [HS2.out]; rfl, hB⟩
theorem mixAll_c (s : List Int) (t : ByteArray) (w : World) (hs : Wds 8 s) (ht : t.size ≤ 100000) : Calls Try.prog 164 #[.agg (ws s).toArray, .string t] w fun e w' => e = .returned (.agg (ws (mixText s t (t.size / 64))).toArray) ∧ Below w.heap.size w w' := mixAll_c' s _ t w hs ht rfl
end Go.Proofs.Ytojjjhbiccgjkaa
