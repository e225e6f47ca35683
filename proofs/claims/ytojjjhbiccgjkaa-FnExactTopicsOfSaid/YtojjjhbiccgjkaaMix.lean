/- The mixing of a block into a state. -/
import Derived.Test.YtojjjhbiccgjkaaArr
import Derived.StillTailTactics
namespace Go.Proofs.Ytojjjhbiccgjkaa
set_option linter.unusedVariables false
set_option linter.unusedSimpArgs false
open Go.RowKit

/-- so many words -/
def Wds (n : Nat) (l : List Int) : Prop := l.length = n ∧ ∀ x ∈ l, 0 ≤ x ∧ x < 4294967296
theorem Wds.at_ {n : Nat} {l : List Int} (h : Wds n l) {k : Nat} (hk : k < n) : 0 ≤ l.getD k 0 ∧ l.getD k 0 < 4294967296 := by
  have hl : k < l.length := by rw [h.1]; exact hk
  rw [List.getD_eq_getElem?_getD, List.getElem?_eq_getElem hl]
  exact h.2 _ (List.getElem_mem hl)
theorem Wds.set {n : Nat} {l : List Int} (h : Wds n l) (k : Nat) {x : Int} (hx : 0 ≤ x ∧ x < 4294967296) : Wds n (l.set k x) :=
  ⟨by rw [List.length_set]; exact h.1, fun y hy => by
    rcases List.mem_or_eq_of_mem_set hy with h1 | rfl
    · exact h.2 y h1
    · exact hx⟩
theorem NewBox.wd {w : World} {k n : Nat} {l : List Int} (h : NewBox w k (ws l)) (hl : l.length = n) {o : Nat} (ho : o < n) : w.cell? ⟨k, o, none⟩ = some (.int .u32 (l.getD o 0)) := by
  subst hl
  rw [h.word ho, List.getD_eq_getElem?_getD, List.getElem?_eq_getElem ho]; rfl
theorem xor_w {a b : Int} (h : 0 ≤ a ∧ a < 4294967296) (k : 0 ≤ b ∧ b < 4294967296) : 0 ≤ bits .xor .u32 a b ∧ bits .xor .u32 a b < 4294967296 := by
  rw [u32_xor a b h.1 h.2 k.1 k.2]
  have hx : a.toNat ^^^ b.toNat < 2 ^ 32 := Nat.xor_lt_two_pow (by omega) (by omega)
  omega

def mixA (b v : List Int) (r i : Nat) : List Int := v.set i ((v.getD i 0 + (cst (8 * r + i) + bits .xor .u32 (v.getD ((i + 1) % 8) 0) (b.getD ((8 * r + 5 * i + r / 2) % 16) 0)) % 4294967296) % 4294967296)
def mixB (v : List Int) (r i : Nat) : List Int := v.set i (bits .xor .u32 (rotN (5 + (i + 3 * r) % 23) (v.getD i 0)) (v.getD ((i + 3) % 8) 0))
def mixRow (b v : List Int) (r : Nat) : Nat → List Int
  | 0 => v
  | i + 1 => mixB (mixA b (mixRow b v r i) r i) r i
def mixU (b v : List Int) : Nat → List Int
  | 0 => v
  | r + 1 => mixRow b (mixU b v r) r 8
/-- what is added at the end, up to k -/
def addW (s v : List Int) : Nat → List Int
  | 0 => v
  | k + 1 => (addW s v k).set k (((addW s v k).getD k 0 + s.getD k 0) % 4294967296)
def mixAll1 (s b : List Int) : List Int := addW s (mixU b s 12) 8
theorem mixA_w {b v : List Int} (h : Wds 8 v) (r i : Nat) : Wds 8 (mixA b v r i) := h.set _ (by omega)
theorem mixB_w {v : List Int} (h : Wds 8 v) {r i : Nat} (hi : i < 8) : Wds 8 (mixB v r i) := h.set _ (xor_w (rotN_w (h.at_ hi) _) (h.at_ (by omega)))
theorem mixRow_w {b v : List Int} (h : Wds 8 v) (r : Nat) : ∀ i, i ≤ 8 → Wds 8 (mixRow b v r i)
  | 0, _ => h
  | i + 1, hi => mixB_w (mixA_w (mixRow_w h r i (by omega)) r i) (by omega)
theorem mixU_w {b v : List Int} (h : Wds 8 v) : ∀ r, Wds 8 (mixU b v r)
  | 0 => h
  | r + 1 => mixRow_w (mixU_w h r) r 8 (Nat.le_refl _)
theorem addW_w {s v : List Int} (h : Wds 8 v) : ∀ k, Wds 8 (addW s v k)
  | 0 => h
  | k + 1 => (addW_w h k).set _ (by omega)
theorem mixAll1_w {s b : List Int} (h : Wds 8 s) : Wds 8 (mixAll1 s b) := addW_w (mixU_w h 12) 8
theorem list16 {l : List Int} (h : l.length = 16) : ∃ a0 a1 a2 a3 a4 a5 a6 a7 b0 b1 b2 b3 b4 b5 b6 b7, l = [a0, a1, a2, a3, a4, a5, a6, a7, b0, b1, b2, b3, b4, b5, b6, b7] := by
  match l, h with
  | [a0, a1, a2, a3, a4, a5, a6, a7, b0, b1, b2, b3, b4, b5, b6, b7], _ => exact ⟨a0, a1, a2, a3, a4, a5, a6, a7, b0, b1, b2, b3, b4, b5, b6, b7, rfl⟩

/-- where the mixing stands: v in its variable -/
structure MixAt (w : World) (s b v : List Int) (wx : World) : Prop where
  below : Below w.heap.size w wx
  s : NewBox wx w.heap.size (ws s)
  b : NewBox wx (w.heap.size + 1) (ws b)
  z : NewBox wx (w.heap.size + 1 + 1) (ws [0, 0, 0, 0, 0, 0, 0, 0])
  v : NewBox wx (w.heap.size + 1 + 1 + 1) (ws v)
theorem MixAt.set {w : World} {s b v : List Int} {wx : World} (h : MixAt w s b v wx) {o : Nat} (ho : o < v.length) (x : Int) : MixAt w s b (v.set o x) (wx.setCell ⟨w.heap.size + 1 + 1 + 1, o, none⟩ (.int .u32 x)) :=
  ⟨h.below.setCell (by simp only; omega) _, h.s.setCell (by show _ ≠ _; simp only; omega) _, h.b.setCell (by show _ ≠ _; simp only; omega) _, h.z.setCell (by show _ ≠ _; simp only; omega) _, h.v.setW ho x⟩
theorem MixAt.drew {w : World} {s b v : List Int} {wx : World} (h : MixAt w s b v wx) : MixAt w s b v wx.drew := ⟨h.below.drew, h.s.drew, h.b.drew, h.z.drew, h.v.drew⟩
theorem MixAt.new (w : World) (s b v : List Int) (t1 t2 t3 t4 : TypeId) : MixAt w s b v ((((w.alloc (.cells (ws s).toArray t1)).alloc (.cells (ws b).toArray t2)).alloc (.cells (ws [0, 0, 0, 0, 0, 0, 0, 0]).toArray t3)).alloc (.cells (ws v).toArray t4)) := by
  have n0 := NewBox.new w (ws s).toArray t1
  have n1 := NewBox.new (w.alloc (.cells (ws s).toArray t1)) (ws b).toArray t2
  have n2 := NewBox.new ((w.alloc (.cells (ws s).toArray t1)).alloc (.cells (ws b).toArray t2)) (ws [0, 0, 0, 0, 0, 0, 0, 0]).toArray t3
  have n3 := NewBox.new (((w.alloc (.cells (ws s).toArray t1)).alloc (.cells (ws b).toArray t2)).alloc (.cells (ws [0, 0, 0, 0, 0, 0, 0, 0]).toArray t3)) (ws v).toArray t4
  have z : ∀ (w : World) (o : Obj), (w.alloc o).heap.size = w.heap.size + 1 := fun w o => by simp
  simp only [z] at n1 n2 n3
  refine ⟨((((Below.refl _ _).alloc (Nat.le_refl _) _).alloc (by simp only [z]; omega) _).alloc (by simp only [z]; omega) _).alloc (by simp only [z]; omega) _, ((n0.alloc _).alloc _).alloc _, (n1.alloc _).alloc _, n2.alloc _, n3⟩

set_option maxRecDepth 100000 in
set_option maxHeartbeats 400000 in
theorem mixed_c' (s b S : List Int) (w : World) (hs : Wds 8 s) (hb : Wds 16 b) (hS : S = mixAll1 s b) : Calls Try.prog 200 #[.agg (ws s).toArray, .agg (ws b).toArray] w fun e w' => e = .returned (.agg (ws S).toArray) ∧ Below w.heap.size w w' := by
  have hM : ∀ W, W = ((((w.alloc (.cells (ws s).toArray 171)).alloc (.cells (ws b).toArray 205)).alloc (.cells (ws [0, 0, 0, 0, 0, 0, 0, 0]).toArray 171)).alloc (.cells (ws s).toArray 171)) → MixAt w s b s W := by
    rintro W rfl
    exact MixAt.new w s b s _ _ _ _
  have HM := Lib.hid hM
  clear hM
  obtain ⟨a0, a1, a2, a3, a4, a5, a6, a7, es⟩ := list8 hs.1
  obtain ⟨b0, b1, b2, b3, b4, b5, b6, b7, b8, b9, b10, b11, b12, b13, b14, b15, eb⟩ := list16 hb.1
  have HS := Lib.hid hs
  have HBL := Lib.hid hb
  have HSS := Lib.hid hS
  have HES := Lib.hid es
  have HEB := Lib.hid eb
  go_enter Try.func200, Try.ntmps200
  simp only [es, eb, ws, List.map_cons, List.map_nil]
  clear hs hb hS es eb
  go_wp2
  go_loopw [10] (fun i wx => ∃ r : Nat, r ≤ 12 ∧ i = .int .i64 r ∧ MixAt w s b (mixU b s r) wx) (fun i _ => 12 - (intOf i).toNat)
  case atStart => exact ⟨0, Nat.zero_le _, rfl, HM.out _ (by rw [HES.out, HEB.out]; rfl)⟩
  case round =>
    clear HM
    obtain ⟨r, hr, rfl, hA⟩ := hrel
    have HV : Hid (Wds 8 (mixU b s r)) := mixU_w HS.out r
    by_cases hlt : r < 12
    · have HA := Lib.hid hA
      clear hA
      go_wp2
      have hdr : decide ((r : Int) < 12) = true := decide_eq_true (by omega)
      simp only [hdr]
      clear hdr
      go_loopw [13] (fun i wx => ∃ k : Nat, k ≤ 8 ∧ i = .int .i64 k ∧ MixAt w s b (mixRow b (mixU b s r) r k) wx) (fun i _ => 8 - (intOf i).toNat)
      case atStart => exact ⟨0, Nat.zero_le _, rfl, HA.out⟩
      case round =>
        clear HA
        obtain ⟨k, hk, rfl, hA⟩ := hrel
        by_cases hlk : k < 8
        · have hvw : Wds 8 (mixRow b (mixU b s r) r k) := mixRow_w HV.out r k hk
          have hnx : mixRow b (mixU b s r) r (k + 1) = mixB (mixA b (mixRow b (mixU b s r) r k) r k) r k := rfl
          generalize mixRow b (mixU b s r) r k = v at *
          have HNX := Lib.hid hnx
          clear hnx
          have hma : mixA b v r k = v.set k ((v.getD k 0 + (cst (8 * r + k) + bits .xor .u32 (v.getD ((k + 1) % 8) 0) (b.getD ((8 * r + 5 * k + r / 2) % 16) 0)) % 4294967296) % 4294967296) := rfl
          obtain ⟨m2, hm2⟩ : ∃ m, m = (k + 1) % 8 := ⟨_, rfl⟩
          obtain ⟨m3, hm3⟩ : ∃ m, m = (8 * r + 5 * k + r / 2) % 16 := ⟨_, rfl⟩
          rw [← hm2, ← hm3] at hma
          have p1 := hA.v.wd hvw.1 hlk
          have p2 := hA.v.wd hvw.1 (show m2 < 8 by omega)
          have p3 := hA.b.wd HBL.out.1 (show m3 < 16 by omega)
          have x1 := hvw.at_ hlk
          have x2 := hvw.at_ (show m2 < 8 by omega)
          have x3 := HBL.out.at_ (show m3 < 16 by omega)
          have hf := hA.v.2.2 k
          have xc := cst_w (8 * r + k)
          generalize v.getD k 0 = y1 at *
          generalize v.getD m2 0 = y2 at *
          generalize b.getD m3 0 = y3 at *
          have xx := xor_w x2 x3
          have HC : Calls Try.prog 228 #[.int .i64 (8 * (r : Int) + k)] wr.drew fun e w'' => e = .returned (.int .u32 (cst (8 * r + k))) ∧ w'' = wr.drew := (implConstant_c _ _).mono fun _ _ h => ⟨h.1, h.2.symm⟩
          have E1 : IntKind.i64.wrap (8 * (r : Int)) = 8 * r := by rw [IntKind.wrap_i64]; omega
          have E2 : IntKind.i64.wrap (8 * (r : Int) + k) = 8 * r + k := by rw [IntKind.wrap_i64]; omega
          have E3 : IntKind.i64.wrap ((k : Int) + 1) = k + 1 := by rw [IntKind.wrap_i64]; omega
          have E4 : ((k : Int) + 1).tmod 8 = m2 := by rw [Int.tmod_eq_emod_of_nonneg (by omega)]; omega
          have E5 : IntKind.i64.wrap (5 * (k : Int)) = 5 * k := by rw [IntKind.wrap_i64]; omega
          have E6 : IntKind.i64.wrap (8 * (r : Int) + 5 * k) = 8 * r + 5 * k := by rw [IntKind.wrap_i64]; omega
          have E7 : (r : Int).tdiv 2 = (r / 2 : Nat) := by rw [Int.tdiv_eq_ediv_of_nonneg (by omega)]; omega
          have E8 : IntKind.i64.wrap ((r / 2 : Nat) : Int) = (r / 2 : Nat) := by rw [IntKind.wrap_i64]; omega
          have E9 : IntKind.i64.wrap (8 * (r : Int) + 5 * k + (r / 2 : Nat)) = 8 * r + 5 * k + (r / 2 : Nat) := by rw [IntKind.wrap_i64]; omega
          have E10 : (8 * (r : Int) + 5 * k + (r / 2 : Nat)).tmod 16 = m3 := by rw [Int.tmod_eq_emod_of_nonneg (by omega)]; omega
          generalize hcc : cst (8 * (r : Int) + k) = c at *
          have HCC := Lib.hid hcc
          have HA := Lib.hid hA
          have HVW := Lib.hid hvw
          have HMA := Lib.hid hma
          have H2 := Lib.hid hm2
          have H3 := Lib.hid hm3
          have B2 : (m2 : Int) < 8 := by omega
          have B3 : (m3 : Int) < 16 := by omega
          have B1 : (k : Int) < 8 := by omega
          clear hA hvw hma hm2 hm3 hcc
          generalize (r / 2 : Nat) = rh at *
          go_wp2
          refine wp_region_still_tail 28 (by kernel_rfl) (by kernel_rfl) ?_
          simp only [List.take_succ_cons, List.take_zero, List.drop_succ_cons, List.drop_zero]
          repeat still_step
          still_call HC
          repeat still_step
          refine wpStill_nil ?_
          change wpList _ _ _ _ _ wr.drew
          have HA2 := Lib.hid HA.out.drew
          have hf2 : wr.drew.frozen? ⟨w.heap.size + 1 + 1 + 1, k, none⟩ = false := hf
          have p12 : wr.drew.cell? ⟨w.heap.size + 1 + 1 + 1, k, none⟩ = some (.int .u32 y1) := p1
          clear HA HC p1 p2 p3 hf
          generalize wr.drew = wq at *
          go_wp2
          have hA : MixAt w s b (mixA b v r k) (wq.setCell ⟨w.heap.size + 1 + 1 + 1, k, none⟩ (.int .u32 ((y1 + (c + bits .xor .u32 y2 y3) % 4294967296) % 4294967296))) := by
            rw [HMA.out]
            exact HA2.out.set (by rw [HVW.out.1]; exact hlk) _
          have hvw : Wds 8 (mixA b v r k) := mixA_w HVW.out r k
          clear HA2 hf2 p12
          generalize wq.setCell ⟨w.heap.size + 1 + 1 + 1, k, none⟩ (.int .u32 ((y1 + (c + bits .xor .u32 y2 y3) % 4294967296) % 4294967296)) = wp at *
          clear HMA HVW
          have hmb : mixB (mixA b v r k) r k = (mixA b v r k).set k (bits .xor .u32 (rotN (5 + (k + 3 * r) % 23) ((mixA b v r k).getD k 0)) ((mixA b v r k).getD ((k + 3) % 8) 0)) := rfl
          obtain ⟨m5, hm5⟩ : ∃ m, m = (k + 3 * r) % 23 := ⟨_, rfl⟩
          obtain ⟨m6, hm6⟩ : ∃ m, m = (k + 3) % 8 := ⟨_, rfl⟩
          rw [← hm5, ← hm6] at hmb
          generalize mixA b v r k = v1 at *
          have p4 := hA.v.wd hvw.1 hlk
          have p6 := hA.v.wd hvw.1 (show m6 < 8 by omega)
          have x4 := hvw.at_ hlk
          have hf := hA.v.2.2 k
          generalize v1.getD k 0 = z1 at *
          generalize v1.getD m6 0 = z6 at *
          have HT : Calls Try.prog 229 #[.int .u32 z1, .int .i64 (5 + (m5 : Int))] wp.drew fun e w'' => e = .returned (.int .u32 (rotN (5 + m5) z1)) ∧ w'' = wp.drew := (implTurn_c z1 (5 + m5) _ x4 (by omega)).mono fun _ _ h => ⟨h.1, h.2.symm⟩
          have D1 : IntKind.i64.wrap (3 * (r : Int)) = 3 * r := by rw [IntKind.wrap_i64]; omega
          have D2 : IntKind.i64.wrap ((k : Int) + 3 * r) = k + 3 * r := by rw [IntKind.wrap_i64]; omega
          have D3 : ((k : Int) + 3 * r).tmod 23 = m5 := by rw [Int.tmod_eq_emod_of_nonneg (by omega)]; omega
          have D4 : IntKind.i64.wrap (5 + (m5 : Int)) = 5 + m5 := by rw [IntKind.wrap_i64]; omega
          have D5 : IntKind.i64.wrap ((k : Int) + 3) = k + 3 := by rw [IntKind.wrap_i64]; omega
          have D6 : ((k : Int) + 3).tmod 8 = m6 := by rw [Int.tmod_eq_emod_of_nonneg (by omega)]; omega
          have D7 : (m6 : Int) < 8 := by omega
          have HA := Lib.hid hA
          have HVW := Lib.hid hvw
          have HMB := Lib.hid hmb
          clear hA hvw hmb hm5 hm6
          generalize rotN (5 + m5) z1 = q1 at *
          refine wp_region_still_tail 18 (by kernel_rfl) (by kernel_rfl) ?_
          simp only [List.take_succ_cons, List.take_zero, List.drop_succ_cons, List.drop_zero]
          repeat still_step
          still_call HT
          repeat still_step
          refine wpStill_nil ?_
          change wpList _ _ _ _ _ wp.drew
          have HA2 := Lib.hid HA.out.drew
          have hf2 : wp.drew.frozen? ⟨w.heap.size + 1 + 1 + 1, k, none⟩ = false := hf
          have p12 : wp.drew.cell? ⟨w.heap.size + 1 + 1 + 1, k, none⟩ = some (.int .u32 z1) := p4
          clear HA HT p4 p6 hf
          generalize wp.drew = wq at *
          go_wp2
          go_round
          case rel =>
            refine ⟨k + 1, by omega, by go_num, ?_⟩
            rw [HNX.out, HMB.out]
            exact HA2.out.set (by rw [HVW.out.1]; exact hlk) _
          case measure => simp [intOf]; omega
        · obtain rfl : k = 8 := by omega
          have HA := Lib.hid hA
          clear hA
          go_wp2
          first
            | exact ⟨⟨r + 1, by omega, by go_num, HA.out⟩, by simp [intOf]; omega⟩
            | (go_round
               case rel => exact ⟨r + 1, by omega, by go_num, HA.out⟩
               case measure => simp [intOf]; omega)
    · obtain rfl : r = 12 := by omega
      have HA := Lib.hid hA
      clear hA
      have HU : Hid (Wds 8 (mixU b s 12)) := HV
      go_wp2
      have hSS := HSS.out
      unfold mixAll1 at hSS
      have HSS2 := Lib.hid hSS
      clear hSS HSS HV
      generalize mixU b s 12 = u at *
      have h12 : ((12 : Nat) : Int) = 12 := rfl
      simp only [h12]
      clear h12
      go_loopw [64] (fun i wx => ∃ k : Nat, k ≤ 8 ∧ i = .int .i64 k ∧ MixAt w s b (addW s u k) wx) (fun i _ => 8 - (intOf i).toNat)
      case atStart => exact ⟨0, Nat.zero_le _, rfl, HA.out⟩
      case round =>
        clear HA
        obtain ⟨k, hk, rfl, hA⟩ := hrel
        by_cases hlk : k < 8
        · have hvw : Wds 8 (addW s u k) := addW_w HU.out k
          have hnx : addW s u (k + 1) = (addW s u k).set k (((addW s u k).getD k 0 + s.getD k 0) % 4294967296) := rfl
          generalize addW s u k = v at *
          have p1 := hA.v.wd hvw.1 hlk
          have p2 := hA.s.wd HS.out.1 hlk
          have x1 := hvw.at_ hlk
          have x2 := HS.out.at_ hlk
          have hf := hA.v.2.2 k
          generalize v.getD k 0 = y1 at *
          generalize s.getD k 0 = y2 at *
          have B1 : (k : Int) < 8 := by omega
          have HA := Lib.hid hA
          have HVW := Lib.hid hvw
          have HNX := Lib.hid hnx
          clear hA hvw hnx
          go_wp2
          refine wp_region_still_tail 8 (by kernel_rfl) (by kernel_rfl) ?_
          simp only [List.take_succ_cons, List.take_zero, List.drop_succ_cons, List.drop_zero]
          repeat still_step
          refine wpStill_nil ?_
          change wpList _ _ _ _ _ wr.drew
          have HA2 := Lib.hid HA.out.drew
          have hf2 : wr.drew.frozen? ⟨w.heap.size + 1 + 1 + 1, k, none⟩ = false := hf
          have p12 : wr.drew.cell? ⟨w.heap.size + 1 + 1 + 1, k, none⟩ = some (.int .u32 y1) := p1
          clear HA p1 p2 hf
          generalize wr.drew = wq at *
          go_wp2
          go_round
          case rel =>
            refine ⟨k + 1, by omega, by go_num, ?_⟩
            rw [HNX.out]
            exact HA2.out.set (by rw [HVW.out.1]; exact hlk) _
          case measure => simp [intOf]; omega
        · obtain rfl : k = 8 := by omega
          have hn : (addW s u 8).length = 8 := (addW_w HU.out 8).1
          generalize addW s u 8 = l at *
          obtain ⟨c0, c1, c2, c3, c4, c5, c6, c7, rfl⟩ := list8 hn
          clear hn
          have e0 := hA.v.cell (o := 0) (v := .int .u32 c0) rfl
          have e1 := hA.v.cell (o := 1) (v := .int .u32 c1) rfl
          have e2 := hA.v.cell (o := 2) (v := .int .u32 c2) rfl
          have e3 := hA.v.cell (o := 3) (v := .int .u32 c3) rfl
          have e4 := hA.v.cell (o := 4) (v := .int .u32 c4) rfl
          have e5 := hA.v.cell (o := 5) (v := .int .u32 c5) rfl
          have e6 := hA.v.cell (o := 6) (v := .int .u32 c6) rfl
          have e7 := hA.v.cell (o := 7) (v := .int .u32 c7) rfl
          have d0 := hA.z.cell (o := 0) (v := .int .u32 0) rfl
          have d1 := hA.z.cell (o := 1) (v := .int .u32 0) rfl
          have d2 := hA.z.cell (o := 2) (v := .int .u32 0) rfl
          have d3 := hA.z.cell (o := 3) (v := .int .u32 0) rfl
          have d4 := hA.z.cell (o := 4) (v := .int .u32 0) rfl
          have d5 := hA.z.cell (o := 5) (v := .int .u32 0) rfl
          have d6 := hA.z.cell (o := 6) (v := .int .u32 0) rfl
          have d7 := hA.z.cell (o := 7) (v := .int .u32 0) rfl
          have hf := hA.z.2.2
          have HA := Lib.hid hA
          clear hA
          go_wp2
          refine bodyPost_named fun W hW => ?_
          obtain ⟨hN, hB, _⟩ := HA.out.z.set8 HA.out.below (by omega) c0 c1 c2 c3 c4 c5 c6 c7 W hW
          clear hW
          have e0 := hN.cell (o := 0) (v := .int .u32 c0) rfl
          have e1 := hN.cell (o := 1) (v := .int .u32 c1) rfl
          have e2 := hN.cell (o := 2) (v := .int .u32 c2) rfl
          have e3 := hN.cell (o := 3) (v := .int .u32 c3) rfl
          have e4 := hN.cell (o := 4) (v := .int .u32 c4) rfl
          have e5 := hN.cell (o := 5) (v := .int .u32 c5) rfl
          have e6 := hN.cell (o := 6) (v := .int .u32 c6) rfl
          have e7 := hN.cell (o := 7) (v := .int .u32 c7) rfl
          refine bodyPost_ret (v := .agg #[.int .u32 c0, .int .u32 c1, .int .u32 c2, .int .u32 c3, .int .u32 c4, .int .u32 c5, .int .u32 c6, .int .u32 c7]) (by simp [results, Try.results200, go_sem, e0, e1, e2, e3, e4, e5, e6, e7]) rfl ?_
          exact ⟨by rw [HSS2.out]; rfl, hB⟩
theorem mixed_c (s b : List Int) (w : World) (hs : Wds 8 s) (hb : Wds 16 b) : Calls Try.prog 200 #[.agg (ws s).toArray, .agg (ws b).toArray] w fun e w' => e = .returned (.agg (ws (mixAll1 s b)).toArray) ∧ Below w.heap.size w w' := mixed_c' s b _ w hs hb rfl
end Go.Proofs.Ytojjjhbiccgjkaa
