/- MixIn of the reference. -/
import Derived.Test.YtojjjhbiccgjkaaRefA
import Derived.Test.YtojjjhbiccgjkaaAddw
import Derived.StillTailTactics
import Derived.Deep.QuietTactic
import Derived.BigQuiet
import Derived.Deep.AppendLies
namespace Go.Proofs.Ytojjjhbiccgjkaa
set_option linter.unusedVariables false
set_option linter.unusedSimpArgs false
open Go.RowKit

theorem row_form {w : World} {base size n : Nat} {e : TypeId} {v : Value} {xs : List Value} (h : w.ownsRow base e size v n xs) (hn : 0 < n) : ∃ g cap, v = .slice (some ⟨g, 0, none⟩) n cap := by
  rcases h.2 with ⟨_, h0⟩ | ⟨g, cap, _, hv, _⟩
  · omega
  · exact ⟨g, cap, hv⟩
theorem own_ne' {w : World} {base e size n B : Nat} {v : Value} {xs : List Value} (h : w.ownsRow base e size v n xs) (hB : B < base) : some B ≠ v.ownBlock := fun e1 => by
  have := (h.lt B e1.symm).1; omega
/-- where the reference's mixing stands: v in the row at block g -/
structure MixS (w : World) (g : Nat) (v : List Int) (wx : World) : Prop where
  below : Below w.heap.size w wx
  le : w.heap.size ≤ g
  v : Own wx g (g + 1) (some ⟨g, 0, none⟩) (ws v)
theorem MixS.set {w : World} {g : Nat} {v : List Int} {wx : World} (h : MixS w g v wx) {o : Nat} (ho : o < v.length) (x : Int) : MixS w g (v.set o x) (wx.setCell ⟨g, o, none⟩ (.int .u32 x)) := by
  refine ⟨h.below.setCell h.le _, h.le, ?_⟩
  have := h.v.set (j := o) (by rw [ws_len]; exact ho) (.int .u32 x)
  rwa [Nat.zero_add, ws_set] at this
theorem MixS.drew {w : World} {g : Nat} {v : List Int} {wx : World} (h : MixS w g v wx) : MixS w g v wx.drew := ⟨h.below.drew, h.le, h.v.drew⟩
theorem MixS.drewN {w : World} {g : Nat} {v : List Int} {wx : World} (h : MixS w g v wx) (n : Nat) : MixS w g v (wx.drewN n) := ⟨h.below.trans (Below.mono (below_drewN wx n) h.below.size), h.le, h.v.drewN n⟩
theorem MixS.wd {w : World} {g n : Nat} {v : List Int} {wx : World} (h : MixS w g v wx) (hl : Wds n v) {o : Nat} (ho : o < n) : wx.cell? ⟨g, o, none⟩ = some (.int .u32 (v.getD o 0)) ∧ wx.frozen? ⟨g, o, none⟩ = false := by
  have hol : o < v.length := by rw [hl.1]; exact ho
  obtain ⟨b, off, h1, _, _, _, h5, h6⟩ := h.v.at_ (j := o) (by rw [ws_len]; exact hol)
  cases h1
  refine ⟨?_, by have := h6 o; rwa [Nat.zero_add] at this⟩
  have := h5 o _ (ws_get (List.getElem?_eq_getElem hol))
  rw [Nat.zero_add] at this
  rw [this, List.getD_eq_getElem?_getD, List.getElem?_eq_getElem hol]; rfl

set_option maxRecDepth 100000 in
set_option maxHeartbeats 400000 in
theorem specMixIn_c (A B : Option Addr) (c c2 lo hi lo2 hi2 : Nat) (s b : List Int) (w : World) (hs : Wds 8 s) (hb : Wds 16 b) (hA : Rd w lo hi A (ws s)) (hB : Rd w lo2 hi2 B (ws b)) :
    Calls Try.prog 197 #[.slice A 8 c, .slice B 16 c2] w fun e w' => ∃ A' c', e = .returned (.tuple #[.slice A' 8 c', .bool true]) ∧ Below w.heap.size w w' ∧ Rd w' w.heap.size w'.heap.size A' (ws (mixAll1 s b)) := by
  obtain ⟨ba, oa, rfl, hba, hca⟩ := hA.at_ (j := 0) (by rw [ws_len, hs.1]; omega)
  obtain ⟨bb, ob, rfl, hbb, hcb⟩ := hB.at_ (j := 0) (by rw [ws_len, hb.1]; omega)
  have hrow := row_made w 169 0
  have hbl : Below w.heap.size w (w.alloc (.cells #[] 169)) := (Below.refl _ _).alloc (Nat.le_refl _) _
  have HRA := Lib.hid hA.base
  have HRB := Lib.hid hB.base
  have HS := Lib.hid hs
  have HBW := Lib.hid hb
  have HROW := Lib.hid hrow
  have HBL := Lib.hid hbl
  clear hA hB hs hb hrow hbl hca hcb
  go_enter Try.func197, Try.ntmps197
  go_wp2_with (at_builtin; refine appWd rfl _ _ rfl w.heap.size _ _ _ rfl HROW.out (some ⟨ba, oa, none⟩) 8 c 0 _ s rfl HS.out.1 (HRA.out.below HBL.out) (fun h => by cases h) (by omega) HBL.out.size ?_)
  intro v2 w2 hown2 hg2
  have hon := grown_only HROW.out hg2
  have HB2 : Hid (Below w.heap.size w w2) := below_only HBL.out hon (Nat.le_refl _) HBL.out.size
  obtain ⟨g, cap, rfl⟩ := row_form hown2 (by omega)
  have hO := Own.of_ownsRow hown2
  have hgw := (hown2.lt g rfl).1
  have HM : Hid (MixS w g s w2) := ⟨HB2.out, hgw, hO.tight⟩
  clear hown2 hg2 hon hO
  go_wp2
  go_loopw [7] (fun i wx => ∃ r : Nat, r ≤ 12 ∧ i = .int .i64 r ∧ MixS w g (mixU b s r) wx) (fun i _ => 12 - (intOf i).toNat)
  case atStart => exact ⟨0, Nat.zero_le _, rfl, HM.out⟩
  case round =>
    clear HM
    obtain ⟨r, hr, rfl, hA⟩ := hrel
    have HV : Hid (Wds 8 (mixU b s r)) := mixU_w HS.out r
    by_cases hlt : r < 12
    · have HA := Lib.hid hA
      clear hA
      go_wp2
      have hdr : decide ((r : Int) < 12) = true := decide_eq_true (by omega)
      simp only [hdr]
      clear hdr
      go_loopw [8] (fun i wx => ∃ k : Nat, k ≤ 8 ∧ i = .int .i64 k ∧ MixS w g (mixRow b (mixU b s r) r k) wx) (fun i _ => 8 - (intOf i).toNat)
      case atStart => exact ⟨0, Nat.zero_le _, rfl, HA.out⟩
      case round =>
        clear HA
        obtain ⟨k, hk, rfl, hA⟩ := hrel
        by_cases hlk : k < 8
        · have hvw : Wds 8 (mixRow b (mixU b s r) r k) := mixRow_w HV.out r k hk
          have hnx : mixRow b (mixU b s r) r (k + 1) = mixB (mixA b (mixRow b (mixU b s r) r k) r k) r k := rfl
          generalize mixRow b (mixU b s r) r k = v at *
          have HNX := Lib.hid hnx
          clear hnx
          have hma : mixA b v r k = v.set k ((v.getD k 0 + (cst (8 * r + k) + bits .xor .u32 (v.getD ((k + 1) % 8) 0) (b.getD ((8 * r + 5 * k + r / 2) % 16) 0)) % 4294967296) % 4294967296) := rfl
          obtain ⟨m2, hm2⟩ : ∃ m, m = (k + 1) % 8 := ⟨_, rfl⟩
          obtain ⟨m3, hm3⟩ : ∃ m, m = (8 * r + 5 * k + r / 2) % 16 := ⟨_, rfl⟩
          rw [← hm2, ← hm3] at hma
          have p1 := (hA.wd hvw hlk).1
          have hf := (hA.wd hvw hlk).2
          have p2 := (hA.wd hvw (show m2 < 8 by omega)).1
          obtain ⟨b3, o3, e3, hz3, p3⟩ := (HRB.out.below hA.below).wd (k := m3) (by rw [HBW.out.1]; omega)
          cases e3
          have x1 := hvw.at_ hlk
          have x2 := hvw.at_ (show m2 < 8 by omega)
          have x3 := HBW.out.at_ (show m3 < 16 by omega)
          have e4 : b[m3]'(by rw [HBW.out.1]; omega) = b.getD m3 0 := by rw [List.getD_eq_getElem?_getD, List.getElem?_eq_getElem]; rfl
          rw [e4] at p3
          clear e4
          generalize v.getD k 0 = y1 at *
          generalize v.getD m2 0 = y2 at *
          generalize b.getD m3 0 = y3 at *
          have xx := xor_w x2 x3
          have E4 : ((k : Int) + 1).tmod 8 = m2 := by rw [Int.tmod_eq_emod_of_nonneg (by omega)]; omega
          have E7 : (r : Int).tdiv 2 = (r / 2 : Nat) := by rw [Int.tdiv_eq_ediv_of_nonneg (by omega)]; omega
          have E10 : (8 * (r : Int) + 5 * k + (r / 2 : Nat)).tmod 16 = m3 := by rw [Int.tmod_eq_emod_of_nonneg (by omega)]; omega
          have B1 : (k : Int) < 8 := by omega
          have B2 : (m2 : Int) < 8 := by omega
          have B3 : (m3 : Int) < 16 := by omega
          have B4 : (r / 2 : Nat) ≤ 6 := by omega
          have HA := Lib.hid hA
          have HVW := Lib.hid hvw
          have HMA := Lib.hid hma
          clear hA hvw hma hm2 hm3
          generalize (r / 2 : Nat) = rh at *
          go_wp2
          go_quiet (fail)
          go_wp2
          have HA0 := Lib.hid (HA.out.drewN nq)
          have p10 : (wr.drewN nq).cell? ⟨g, k, none⟩ = some (.int .u32 y1) := p1
          have hf0 : (wr.drewN nq).frozen? ⟨g, k, none⟩ = false := hf
          clear HA p1 p2 p3 hf hz3
          generalize wr.drewN nq = wy at *
          have xc := cst_w (8 * r + k)
          have HC : Calls Try.prog 226 #[.int .i64 (8 * (r : Int) + k)] wy.drew fun e w'' => e = .returned (.int .u32 (cst (8 * r + k))) ∧ w'' = wy.drew := (specConstant_c _ _).mono fun _ _ h => ⟨h.1, h.2.symm⟩
          have F1 : IntKind.i64.wrap (8 * (r : Int)) = 8 * r := by rw [IntKind.wrap_i64]; omega
          have F2 : IntKind.i64.wrap (8 * (r : Int) + k) = 8 * r + k := by rw [IntKind.wrap_i64]; omega
          generalize hcc : cst (8 * (r : Int) + k) = cc at *
          clear hcc
          refine wp_region_still_tail 15 (by kernel_rfl) (by kernel_rfl) ?_
          simp only [List.take_succ_cons, List.take_zero, List.drop_succ_cons, List.drop_zero]
          repeat still_step
          still_call HC
          repeat still_step
          refine wpStill_nil ?_
          change wpList _ _ _ _ _ wy.drew
          have HA2 := Lib.hid HA0.out.drew
          have hf2 : wy.drew.frozen? ⟨g, k, none⟩ = false := hf0
          have p12 : wy.drew.cell? ⟨g, k, none⟩ = some (.int .u32 y1) := p10
          clear HA0 HC p10 hf0
          generalize wy.drew = wq at *
          have hsum : ((y1 + cc) % 4294967296 + bits .xor .u32 y2 y3) % 4294967296 = (y1 + (cc + bits .xor .u32 y2 y3) % 4294967296) % 4294967296 := by omega
          have HSUM := Lib.hid hsum
          clear hsum
          go_wp2
          rw [HSUM.out]
          have hA : MixS w g (mixA b v r k) (wq.setCell ⟨g, k, none⟩ (.int .u32 ((y1 + (cc + bits .xor .u32 y2 y3) % 4294967296) % 4294967296))) := by
            rw [HMA.out]
            exact HA2.out.set (by rw [HVW.out.1]; exact hlk) _
          have hvw : Wds 8 (mixA b v r k) := mixA_w HVW.out r k
          clear HA2 hf2 p12
          generalize wq.setCell ⟨g, k, none⟩ (.int .u32 ((y1 + (cc + bits .xor .u32 y2 y3) % 4294967296) % 4294967296)) = wp at *
          clear HMA HVW
          have hmb : mixB (mixA b v r k) r k = (mixA b v r k).set k (bits .xor .u32 (rotN (5 + (k + 3 * r) % 23) ((mixA b v r k).getD k 0)) ((mixA b v r k).getD ((k + 3) % 8) 0)) := rfl
          obtain ⟨m5, hm5⟩ : ∃ m, m = (k + 3 * r) % 23 := ⟨_, rfl⟩
          obtain ⟨m6, hm6⟩ : ∃ m, m = (k + 3) % 8 := ⟨_, rfl⟩
          rw [← hm5, ← hm6] at hmb
          generalize mixA b v r k = v1 at *
          have p4 := (hA.wd hvw hlk).1
          have hf := (hA.wd hvw hlk).2
          have p6 := (hA.wd hvw (show m6 < 8 by omega)).1
          have x4 := hvw.at_ hlk
          generalize v1.getD k 0 = z1 at *
          generalize v1.getD m6 0 = z6 at *
          have HT : Calls Try.prog 227 #[.int .u32 z1, .int .i64 (5 + (m5 : Int))] wp.drew fun e w'' => e = .returned (.int .u32 (rotN (5 + m5) z1)) ∧ w'' = wp.drew := (specTurn_c z1 (5 + m5) _ x4 (by omega)).mono fun _ _ h => ⟨h.1, h.2.symm⟩
          have D1 : IntKind.i64.wrap (3 * (r : Int)) = 3 * r := by rw [IntKind.wrap_i64]; omega
          have D2 : IntKind.i64.wrap ((k : Int) + 3 * r) = k + 3 * r := by rw [IntKind.wrap_i64]; omega
          have D3 : ((k : Int) + 3 * r).tmod 23 = m5 := by rw [Int.tmod_eq_emod_of_nonneg (by omega)]; omega
          have D4 : IntKind.i64.wrap (5 + (m5 : Int)) = 5 + m5 := by rw [IntKind.wrap_i64]; omega
          have D5 : IntKind.i64.wrap ((k : Int) + 3) = k + 3 := by rw [IntKind.wrap_i64]; omega
          have D6 : ((k : Int) + 3).tmod 8 = m6 := by rw [Int.tmod_eq_emod_of_nonneg (by omega)]; omega
          have D7 : (m6 : Int) < 8 := by omega
          have HA := Lib.hid hA
          have HVW := Lib.hid hvw
          have HMB := Lib.hid hmb
          clear hA hvw hmb hm5 hm6
          generalize rotN (5 + m5) z1 = q1 at *
          refine wp_region_still_tail 21 (by kernel_rfl) (by kernel_rfl) ?_
          simp only [List.take_succ_cons, List.take_zero, List.drop_succ_cons, List.drop_zero]
          repeat still_step
          still_call HT
          repeat still_step
          refine wpStill_nil ?_
          change wpList _ _ _ _ _ wp.drew
          have HA2 := Lib.hid HA.out.drew
          have hf2 : wp.drew.frozen? ⟨g, k, none⟩ = false := hf
          have p12 : wp.drew.cell? ⟨g, k, none⟩ = some (.int .u32 z1) := p4
          clear HA HT p4 p6 hf
          generalize wp.drew = wq at *
          go_wp2
          go_round
          case rel =>
            refine ⟨k + 1, by omega, by go_num, ?_⟩
            rw [HNX.out, HMB.out]
            exact HA2.out.set (by rw [HVW.out.1]; exact hlk) _
          case measure => simp [intOf]; omega
        · obtain rfl : k = 8 := by omega
          have HA := Lib.hid hA
          clear hA
          go_wp2
          go_round
          case rel => exact ⟨r + 1, by omega, by go_num, HA.out⟩
          case measure => simp [intOf]; omega
    · obtain rfl : r = 12 := by omega
      have HA := Lib.hid hA
      clear hA
      have hrow0 := row_made wr 169 0
      have hbl0 : Below wr.heap.size wr (wr.alloc (.cells #[] 169)) := (Below.refl _ _).alloc (Nat.le_refl _) _
      have HR0 := Lib.hid hrow0
      have HA1 : Hid (MixS w g (mixU b s 12) (wr.alloc (.cells #[] 169))) := ⟨below_then HA.out.below hbl0 HA.out.below.size, HA.out.le, HA.out.v.below (hbl0.mono (Nat.le_refl _))⟩
      have HB0 := Lib.hid hbl0
      clear hrow0 hbl0
      go_wp2
      have h12 : ((12 : Nat) : Int) = 12 := rfl
      simp only [h12]
      clear h12
      have HU : Hid (Wds 8 (mixU b s 12)) := HV
      generalize hu : mixU b s 12 = u at *
      have HUE := Lib.hid hu
      have hwz := HA.out.below.size
      clear hu
      obtain ⟨wo, rfl⟩ : ∃ wo : World, wo = wr := ⟨_, rfl⟩
      go_loopw [10, 11] (fun v i wx => ∃ (k : Nat) (A0 : Option Addr) (c0 : Nat), k ≤ 8 ∧ i = .int .i64 k ∧ v = .slice A0 k c0 ∧ wx.ownsRow wo.heap.size 169 1 (.slice A0 k c0) k (ws ((List.range k).map fun q => (u.getD q 0 + s.getD q 0) % 4294967296)) ∧ MixS w g u wx ∧ wo.heap.size ≤ wx.heap.size) (fun _ i _ => 8 - (intOf i).toNat)
      case atStart => exact ⟨0, _, _, Nat.zero_le _, rfl, rfl, HR0.out, HA1.out, HB0.out.size⟩
      case round =>
        obtain ⟨k, A0, c0, hk, rfl, rfl, how, hx, hz⟩ := hrel
        by_cases hlk : k < 8
        · have p1 := (hx.wd HU.out hlk).1
          obtain ⟨b3, o3, e3, hz3, p3⟩ := (HRA.out.below hx.below).wd (k := k) (by rw [HS.out.1]; omega)
          cases e3
          have B1 : (k : Int) < 8 := by omega
          have HOW := Lib.hid how
          have HX := Lib.hid hx
          clear how hx
          have hfp : oa + k = oa + k := rfl
          have hgo : g < wo.heap.size := by
            obtain ⟨b, off, h1, h2, h3, h4, _⟩ := HA.out.v.at_ (j := 0) (by rw [ws_len, HU.out.1]; omega)
            cases h1
            omega
          have hz8 : wo.heap.size ≤ wr.heap.size := hz
          have y1 := HS.out.at_ hlk
          have e4 : s[k]'(by rw [HS.out.1]; omega) = s.getD k 0 := by rw [List.getD_eq_getElem?_getD, List.getElem?_eq_getElem]; rfl
          rw [e4] at p3
          have hmr : Hid (ws ((List.range (k + 1)).map fun q => (u.getD q 0 + s.getD q 0) % 4294967296) = ws ((List.range k).map fun q => (u.getD q 0 + s.getD q 0) % 4294967296) ++ [.int .u32 ((s.getD k 0 + u.getD k 0) % 4294967296)]) := by
            rw [Hid, List.range_succ, List.map_append, ws_app, Int.add_comm (s.getD k 0)]; rfl
          clear e4 hfp
          generalize u.getD k 0 = y2 at *
          generalize s.getD k 0 = y3 at *
          obtain ⟨i0, hi0, hz0, hz1, hz2⟩ := info_parts info_word
          have hne1 := own_ne' HOW.out hgo
          have hne2 := own_ne' HOW.out (show ba < wo.heap.size by omega)
          generalize hrw : (ws ((List.range k).map fun q => (u.getD q 0 + s.getD q 0) % 4294967296)) = rw0 at *
          have HRW := Lib.hid hrw
          clear hrw
          go_wp2
          go_region_held3 (fun w' => w'.cell? ⟨g, k, none⟩ = some (.int .u32 y2) ∧ w'.cell? ⟨ba, oa + k, none⟩ = some (.int .u32 y3))
            (first
              | go_keep
              | (go_split_ands
                 refine ⟨?_, ?_⟩
                 · (rw [hgrow.cell_far _ (by simp; omega) hne1]; assumption)
                 · (rw [hgrow.cell_far _ (by simp; omega) hne2]; assumption)))
            ((refine step_append_lies _ (by rfl) _ _ _ (by rfl) wo.heap.size 169 i0 _ 1 4 Try.underlying163 hi0 hz0 hz1 hz2 rfl (by omega) (.slice A0 k c0) k rw0 (by rfl) ((HOW.out.alloc _).drew)
                ⟨wr.heap.size, 0, none⟩ 1 1 [.int .u32 ((y3 + y2) % 4294967296)] (by rfl) (by rfl) (World.news_of_block (cs := #[.int .u32 ((y3 + y2) % 4294967296)]) (t := 169) (fr := (0, 0)) (heap_alloc_new wr _)) (by simp [Value.oneCell'])
                (by omega) (by unfold maxLen; omega) (by omega) (by simp; omega) (wr.heap.size + 1) (by simp) ?_; intro gg cap w1 hown1 hgrow hat hlt))
          have hon := grown_only ((HOW.out.alloc _).drew) hgrow
          rw [← hmr.out] at hown1
          have HO9 := Lib.hid hown1
          have hwo := HA.out.below.size
          have HX9 : Hid (MixS w g u w1 ∧ wo.heap.size ≤ w1.heap.size) := by
            refine ⟨⟨below_only ((HX.out.below.alloc (by omega) _).drew) hon hwo (by simp; omega), HX.out.le, ((HX.out.v.alloc _).drew).only hon (by omega)⟩, ?_⟩
            have := hon.size
            simp at this
            omega
          rename_i hHeld
          clear hown1 hgrow hat hon hHeld p1 p3 hmr HRW HOW HX hne1 hne2 hi0 hz0 hz1 hz2
          go_wp2
          go_roundw
          case rel => exact ⟨k + 1, _, _, by omega, by go_num, rfl, HO9.out, HX9.out.1, HX9.out.2⟩
          case measure => simp [intOf]; omega
        · obtain rfl : k = 8 := by omega
          have hr := (Own.of_ownsRow how).rd
          have HB9 := Lib.hid hx.below
          go_wp2
          refine bodyPost_ret (v := .tuple #[.slice A0 8 c0, .bool true]) (by simp [results, Try.results197, go_sem]) rfl ?_
          refine ⟨A0, c0, rfl, HB9.out, ?_⟩
          rw [mixAll1, HUE.out, ← addW_all s u HU.out.1]
          exact hr.mono hwz (Nat.le_refl _) (Nat.le_refl _)
end Go.Proofs.Ytojjjhbiccgjkaa
