/- Hashes of a log. -/
import Derived.Test.YtmmepogjocfefaaGreatLeaf
import Derived.Test.YtmmepogjocfefaaGreatHash3
import Derived.Test.YtmmepogjocfefaaGreatLogOk
namespace Go.Proofs.YtmmepogjocfefaaGreat
set_option linter.unusedVariables false
set_option linter.unusedSimpArgs false
open Go.RowKit

theorem strs_app (a b : List ByteArray) : strs (a ++ b) = strs a ++ strs b := by simp [strs]
theorem ent_cells {w : World} {lo hi : Nat} {A : Option Addr} {l : List Ent} (h : Rd w lo hi A (ents l)) {k : Nat} (hk : k < l.length) : ∃ b off x, A = some ⟨b, off, none⟩ ∧ b < w.heap.size ∧ l[k]? = some x ∧
  w.cell? ⟨b, off + k * 5, none⟩ = some (.string x.topic) ∧ w.cell? ⟨b, off + k * 5 + 1, none⟩ = some (.int .i64 x.index) ∧ w.cell? ⟨b, off + k * 5 + 2, none⟩ = some (.int .i64 x.time) ∧ w.cell? ⟨b, off + k * 5 + 3, none⟩ = some (.string x.key) ∧ w.cell? ⟨b, off + k * 5 + 4, none⟩ = some (.string x.body) := by
 obtain ⟨b, off, x, h1, _, _, h4, h5, h6⟩ := Rd.flat (f := Ent.cells) (m := 5) (fun _ => rfl) (by omega) h hk
 exact ⟨b, off, x, h1, h4, h5, h6 0 _ rfl, h6 1 _ rfl, h6 2 _ rfl, h6 3 _ rfl, h6 4 _ rfl⟩
def hashesM (width : Int) (l : List Ent) : List ByteArray := if inR width 1 32 && logOk l then l.map (leafHashM width) else []
def hashesK (width : Int) (l : List Ent) : Bool := inR width 1 32 && logOk l

set_option maxRecDepth 100000 in
set_option maxHeartbeats 4000000 in
theorem hashesOf_c (width : Int) (A : Option Addr) (c lo hi n : Nat) (l : List Ent) (w : World) (hr : Rd w lo hi A (ents l)) (hn : l.length = n) (hl : n ≤ 1048576) (hf : ∀ x ∈ l, x.fits) :
  Calls Tryz.prog 121 #[.int .i64 width, .agg #[.slice A n c]] w fun e w' => ∃ A' c', e = .returned (.slice A' n c') ∧ w'.ownsRow w.heap.size 9 1 (.slice A' n c') n (strs (l.map (leafHashM width))) ∧ Below w.heap.size w w' := by
 have HN := Lib.hid hn
 have HR := Lib.hid hr
 have HF := Lib.hid hf
 obtain ⟨L, hL⟩ : ∃ L, L = l.map (leafHashM width) := ⟨_, rfl⟩
 have HLL := Lib.hid hL
 rw [← hL]
 clear hn hr hf hL
 go_enter Tryz.func121, Tryz.ntmps121
 go_wp2
 go_loopw [5, 13] (fun v i wx => ∃ (k : Nat) (A0 : Option Addr) (c0 : Nat), k ≤ n ∧ i = .int .i64 k ∧ v = .slice A0 k c0 ∧ wx.ownsRow w.heap.size 9 1 (.slice A0 k c0) k (strs (L.take k)) ∧ Below w.heap.size w wx ) (fun _ i _ => n - (intOf i).toNat)
 case atStart => exact ⟨0, none, 0, Nat.zero_le _, rfl, rfl, World.ownsRow_nil _ _ _ _, (Below.refl _ _).alloc (Nat.le_refl _) _⟩
 case round =>
  obtain ⟨k, A0, c0, hk, rfl, rfl, how, hbr⟩ := hrel
  have HBR := Lib.hid hbr
  have HOW := Lib.hid how
  clear hbr how
  by_cases hlt : k < n
  ·skip
   obtain ⟨b, off, x, rfl, hb, hx, hc⟩ := ent_cells (HR.out.below HBR.out) (k := k) (by rw [HN.out]; exact hlt)
   have hc0 := hc.1
   have hc1 := hc.2.1
   have hc2 := hc.2.2.1
   have hc3 := hc.2.2.2.1
   have hc4 := hc.2.2.2.2
   have HT : Hid (L.take (k + 1) = L.take k ++ [leafHashM width x]) := Lib.hid (take_succ (by rw [HLL.out, List.getElem?_map, hx]; rfl))
   have HLH := Lib.hid (fun W => implLeafHash_c width x W (HF.out x (List.mem_of_getElem? hx)))
   have hI : (k : Int) < n := by omega
   clear hc hx
   generalize leafHashM width x = lh at *
   generalize leafHashOk width x = lk at *
   go_wp2_with fail
   refine (HLH.out _).mono ?_
   rintro e w1 ⟨rfl, hb1⟩
   have HB1 := Lib.hid (below_then (HBR.out.alloc HBR.out.size _) hb1 (by first | exact HBR.out.size | (have := HBR.out.size; simp; omega)))
   have HO1 := Lib.hid (row_below (HOW.out.alloc _) hb1)
   have hz1 := HB1.out.size
   clear hb1 HOW hc0 hc1 hc2 hc3 hc4
   go_wp2_with (at_builtin; refine app1Str rfl _ _ rfl w.heap.size _ _ _ rfl (HO1.out.alloc _) w1.heap.size lh rfl (NewBox.new w1 _ _) (by omega) (by first | omega | (simp; done) | (simp; omega)) ?_)
   intro v2 w2 hown2 hg2
   have hon := grown_only (HO1.out.alloc _) hg2
   obtain ⟨A2, c2, rfl, _, _, _⟩ := ownsRow_slice hown2
   have HB2 : Hid (Below w.heap.size w w2) := below_only (HB1.out.alloc HB1.out.size _) hon (Nat.le_refl _) (by simp; omega)
   rw [← strs_app, ← HT.out] at hown2
   have HO2 := Lib.hid hown2
   clear hown2 hg2 hon HO1
   go_wp2
   go_roundw
   case measure => simp [intOf]; omega
   case rel => exact ⟨k + 1, A2, c2, by omega, by go_num, rfl, HO2.out, HB2.out⟩
  ·obtain rfl : k = n := by omega
   have hlt : L.take k = L := List.take_of_length_le (by rw [HLL.out, List.length_map, HN.out]; exact Nat.le_refl _)
   rw [hlt] at HOW
   clear hlt
   go_wp2
   go_ret
   exact ⟨A0, c0, rfl, HOW.out, HBR.out⟩
set_option maxRecDepth 100000 in
set_option maxHeartbeats 4000000 in
theorem l09Hashes_c (width : Int) (A : Option Addr) (c lo hi n : Nat) (l : List Ent) (w : World) (hr : Rd w lo hi A (ents l)) (hn : l.length = n) (hl : n ≤ 1048576) (hf : ∀ x ∈ l, x.fits) :
  Calls Tryz.prog 65 #[.int .i64 width, .slice A n c] w fun e w' => ∃ A' c', e = .returned (.slice A' n c') ∧ w'.ownsRow w.heap.size 9 1 (.slice A' n c') n (strs (l.map (leafHashM width))) ∧ Below w.heap.size w w' := by
 have HN := Lib.hid hn
 have HR := Lib.hid hr
 have HF := Lib.hid hf
 obtain ⟨L, hL⟩ : ∃ L, L = l.map (leafHashM width) := ⟨_, rfl⟩
 have HLL := Lib.hid hL
 rw [← hL]
 have hrow := row_made w 9 0
 have hbl : Below w.heap.size w (w.alloc (.cells #[] 9)) := (Below.refl _ _).alloc (Nat.le_refl _) _
 have HROW := Lib.hid hrow
 have HBL := Lib.hid hbl
 clear hn hr hf hL hrow hbl
 go_enter Tryz.func65, Tryz.ntmps65
 go_wp2
 go_loopw [5, 6] (fun v i wx => ∃ (k : Nat) (A0 : Option Addr) (c0 : Nat), k ≤ n ∧ i = .int .i64 k ∧ v = .slice A0 k c0 ∧ wx.ownsRow w.heap.size 9 1 (.slice A0 k c0) k (strs (L.take k)) ∧ Below w.heap.size w wx ) (fun _ i _ => n - (intOf i).toNat)
 case atStart => exact ⟨0, _, 0, Nat.zero_le _, rfl, rfl, HROW.out, HBL.out⟩
 case round =>
  obtain ⟨k, A0, c0, hk, rfl, rfl, how, hbr⟩ := hrel
  have HBR := Lib.hid hbr
  have HOW := Lib.hid how
  clear hbr how
  by_cases hlt : k < n
  ·skip
   obtain ⟨b, off, x, rfl, hb, hx, hc⟩ := ent_cells (HR.out.below HBR.out) (k := k) (by rw [HN.out]; exact hlt)
   have hc0 := hc.1
   have hc1 := hc.2.1
   have hc2 := hc.2.2.1
   have hc3 := hc.2.2.2.1
   have hc4 := hc.2.2.2.2
   have HT : Hid (L.take (k + 1) = L.take k ++ [leafHashM width x]) := Lib.hid (take_succ (by rw [HLL.out, List.getElem?_map, hx]; rfl))
   have HLH := Lib.hid (fun W => specLeafHash_c width x W (HF.out x (List.mem_of_getElem? hx)))
   have hI : (k : Int) < n := by omega
   clear hc hx
   generalize leafHashM width x = lh at *
   generalize leafHashOk width x = lk at *
   go_wp2_with fail
   refine (HLH.out _).mono ?_
   rintro e w1 ⟨rfl, hb1⟩
   have HB1 := Lib.hid (below_then HBR.out hb1 (by first | exact HBR.out.size | (have := HBR.out.size; simp; omega)))
   have HO1 := Lib.hid (row_below HOW.out hb1)
   have hz1 := HB1.out.size
   clear hb1 HOW hc0 hc1 hc2 hc3 hc4
   go_wp2_with (at_builtin; refine app1Str rfl _ _ rfl w.heap.size _ _ _ rfl (HO1.out.alloc _) w1.heap.size lh rfl (NewBox.new w1 _ _) (by omega) (by first | omega | (simp; done) | (simp; omega)) ?_)
   intro v2 w2 hown2 hg2
   have hon := grown_only (HO1.out.alloc _) hg2
   obtain ⟨A2, c2, rfl, _, _, _⟩ := ownsRow_slice hown2
   have HB2 : Hid (Below w.heap.size w w2) := below_only (HB1.out.alloc HB1.out.size _) hon (Nat.le_refl _) (by simp; omega)
   rw [← strs_app, ← HT.out] at hown2
   have HO2 := Lib.hid hown2
   clear hown2 hg2 hon HO1
   go_wp2
   go_roundw
   case measure => simp [intOf]; omega
   case rel => exact ⟨k + 1, A2, c2, by omega, by go_num, rfl, HO2.out, HB2.out⟩
  ·obtain rfl : k = n := by omega
   have hlt : L.take k = L := List.take_of_length_le (by rw [HLL.out, List.length_map, HN.out]; exact Nat.le_refl _)
   rw [hlt] at HOW
   clear hlt
   go_wp2
   go_ret
   exact ⟨A0, c0, rfl, HOW.out, HBR.out⟩
end Go.Proofs.YtmmepogjocfefaaGreat
