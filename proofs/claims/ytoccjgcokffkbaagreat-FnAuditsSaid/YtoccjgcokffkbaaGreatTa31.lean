/- Part 31 of the proof of FnAudits: lemmas and contracts. -/
import Derived.Test.YtoccjgcokffkbaaGreatTa15
import Derived.Test.YtoccjgcokffkbaaGreatTa12
import Derived.Test.YtoccjgcokffkbaaGreatTa16
import Derived.Test.YtoccjgcokffkbaaGreatTa19
import Derived.Test.YtoccjgcokffkbaaGreatTa28
namespace Go.Proofs.YtoccjgcokffkbaaGreat
set_option linter.unusedVariables false
set_option linter.unusedSimpArgs false
set_option maxHeartbeats 20000000
section
open Go.RowKit
set_option maxRecDepth 100000 in
theorem takenOf_c (width z1 z2 : Int) (E R H A1 A2 : Option Addr) (ne nr nh ce cr ch c1 c2 lo hi m1 m2 : Nat) (rs : List Rcp) (h : Hd) (w : World) (hr : Rd w lo hi R (rcps rs)) (hn : rs.length = nr) (hl : nr ≤ 1048576) (hf : ∀ x ∈ rs, x.fits) :
  Calls Tryz.prog 10 #[.agg #[.int .i64 width, .slice E ne ce, .slice R nr cr, .slice H nh ch, .int .i64 z1, .slice A1 m1 c1, .int .i64 z2, .slice A2 m2 c2, .int .i64 h.num, .int .i64 h.size, .string h.root, .int .i64 h.taken, .string h.troot]] w fun e w' => ∃ A' c', e = .returned (.slice A' nr c') ∧ Own w' w.heap.size w'.heap.size A' (strs (takenM width rs)) ∧ Below w.heap.size w w' := by
 obtain ⟨L, hL⟩ : ∃ L, L = takenM width rs := ⟨_, rfl⟩
 have HLL := lH hL
 rw [← hL]
 have HN := lH hn
 have HF := lH hf
 have HR0 := lH hr.base
 have HB : Hid (Below w.heap.size w w) := Below.refl _ _
 clear hr hn hf hL
 go_enter Tryz.func10, Tryz.ntmps10
 go_wp2
 refine wp_named (fun w1 hw => ?_)
 have hz1 : w.heap.size + 2 ≤ w1.heap.size := by rw [hw]; first | omega | simp [World.setCell] <;> omega
 have hzz1 : w.heap.size ≤ w1.heap.size := by omega
 have hbn : Below w.heap.size w w1 := by rw [hw]; exact (by repeat with_reducible first | exact bR _ | apply bA | apply bD)
 replace HB := lH (below_then HB.out hbn HB.out.size)
 clear hbn
 have HXb : Hid (NewBox w1 (w.heap.size) [.int .i64 width, .slice E ne ce, .slice R nr cr, .slice H nh ch, .int .i64 z1, .slice A1 m1 c1, .int .i64 z2, .slice A2 m2 c2, .int .i64 h.num, .int .i64 h.size, .string h.root, .int .i64 h.taken, .string h.troot]) := by rw [Hid, hw]; exact ⟨by first | omega | (simp [World.setCell]; done) | (simp [World.setCell]; omega), fun o => by rcases o with _ | _ | _ | _ | _ | _ | _ | _ | _ | _ | _ | _ | _ | o <;> go_simp, fun o => by go_simp⟩
 obtain ⟨hkb, hxb, hfb⟩ := HXb.out
 have HXe1 : Hid (NewBox w1 (w.heap.size + 1) []) := by rw [Hid, hw]; exact ⟨by first | omega | (simp [World.setCell]; done) | (simp [World.setCell]; omega), fun o => by rcases o with o <;> go_simp, fun o => by go_simp⟩
 obtain ⟨hke1, hxe1, hfe1⟩ := HXe1.out
 have HROW : Hid (RowB w1 (w.heap.size + 1) w1.heap.size (.slice (some ⟨w.heap.size + 1, 0, none⟩) 0 0, 0) (strs (L.take 0))) := by
  rw [Hid, hw]; exact RowB.of (by simpa [strs] using row_made (w.alloc _) 9 0)
 clear hw
 go_loopw [3, 4] (fun v i wx => ∃ (k : Nat) (X : Option Addr) (g : Nat), k ≤ nr ∧ i = .int .i64 k ∧ v = .slice X k g ∧ NewBox wx ((w.heap.size)) [.int .i64 width, .slice E ne ce, .slice R nr cr, .slice H nh ch, .int .i64 z1, .slice A1 m1 c1, .int .i64 z2, .slice A2 m2 c2, .int .i64 h.num, .int .i64 h.size, .string h.root, .int .i64 h.taken, .string h.troot] ∧ RowB wx (w.heap.size + 1) wx.heap.size (.slice X k g, k) (strs (L.take k)) ∧ Below w.heap.size w wx ∧ w1.heap.size ≤ wx.heap.size) (fun _ i _ => nr - (intOf i).toNat)
 case atStart => exact ⟨0, _, 0, Nat.zero_le _, rfl, rfl, HXb.out, HROW.out, HB.out, Nat.le_refl _⟩
 case round =>
  obtain ⟨k, X, g, hk, rfl, rfl, hbb, hrw, hbl, hzl⟩ := hrel
  have HBL := lH hbl
  replace HB : Hid (Below w.heap.size w wr) := HBL.out
  replace HXb : Hid (NewBox wr (w.heap.size) [.int .i64 width, .slice E ne ce, .slice R nr cr, .slice H nh ch, .int .i64 z1, .slice A1 m1 c1, .int .i64 z2, .slice A2 m2 c2, .int .i64 h.num, .int .i64 h.size, .string h.root, .int .i64 h.taken, .string h.troot]) := hbb
  clear hxb hfb hkb
  obtain ⟨hkb, hxb, hfb⟩ := HXb.out
  have HOA : Hid (RowB wr (w.heap.size + 1) (wr.heap.size) (.slice X k g, k) (strs (L.take k))) := lH hrw
  have HOR := lH (HR0.out.below HBL.out)
  clear hxe1 hfe1 hke1 HXe1
  have hzz_wr : w.heap.size ≤ wr.heap.size := HB.out.size
  clear hbb hrw hbl HROW
  by_cases hlt : k < nr
  ·have hI : (k : Int) < nr := by omega
   go_wp2_with fail
   refine wp_named (fun w2 hw => ?_)
   have hz2 : wr.heap.size + 0 ≤ w2.heap.size := by rw [hw]; first | omega | simp [World.setCell] <;> omega
   have hzz2 : w.heap.size ≤ w2.heap.size := by omega
   have hbn : Below wr.heap.size wr w2 := by rw [hw]; exact (by repeat with_reducible first | exact bR _ | apply bA | apply bD)
   replace HB := lH (below_then HB.out hbn HB.out.size)
   replace HOA := lH (HOA.out.below hbn)
   replace HOR := lH (HOR.out.below hbn)
   replace HXb := lH (HXb.out.below hbn)
   clear hxb hfb hkb
   obtain ⟨hkb, hxb, hfb⟩ := HXb.out
   clear hbn
   clear hw
   obtain ⟨b2, off, x, hRe, hb2, hks, d0, d1, d2⟩ := rcp_cells HOR.out (k := k) (by rw [HN.out]; omega)
   have hix := idxRcp R b2 off nr cr k hRe hlt
   have HT : Hid (L.take (k + 1) = L.take k ++ [rcpHashM width x]) := lH (take_succ (by rw [HLL.out, takenM, List.getElem?_map, hks]; rfl))
   have HX := lH (fun v : Later w2 => specReceiptHash_c width x v.v (HF.out x (List.mem_of_getElem? hks)))
   have t0 : ∀ v : Later w2, v.v.cell? ⟨b2, off + k * 3, none⟩ = some (.string x.reader) := fun v => (later_cell v _ _ hb2).trans d0
   have t1 : ∀ v : Later w2, v.v.cell? ⟨b2, off + k * 3 + 1, none⟩ = some (.string x.topic) := fun v => (later_cell v _ _ hb2).trans d1
   have t2 : ∀ v : Later w2, v.v.cell? ⟨b2, off + k * 3 + 2, none⟩ = some (.int .i64 x.index) := fun v => (later_cell v _ _ hb2).trans d2
   have u0 : ∀ v : Later w2, v.v.cell? ⟨(w.heap.size), 0, none⟩ = some (.int .i64 width) := fun v => (later_cell v _ _ hkb).trans (hxb 0)
   have u2 : ∀ v : Later w2, v.v.cell? ⟨(w.heap.size), 2, none⟩ = some (.slice R nr cr) := fun v => (later_cell v _ _ hkb).trans (hxb 2)
   clear hRe hks d0 d1 d2
   generalize rcpHashM width x = lt at *
   generalize rcpHashOk width x = lk at *
   refine wp_region_later (by kernel_rfl) (by kernel_rfl) ?_
   repeat (go_big_quiet_step ((with_reducible exact later_call (HX.out _))))
   refine wpQuiet_nil ?_
   intro wL h9
   have hb9 := later_below h9
   have hzwL : w2.heap.size ≤ wL.heap.size := hb9.size
   have hzzwL : w.heap.size ≤ wL.heap.size := by omega
   replace HB := lH (below_then HB.out hb9 HB.out.size)
   replace HOA := lH (HOA.out.below hb9)
   replace HOR := lH (HOR.out.below hb9)
   replace HXb := lH (HXb.out.below hb9)
   clear hxb hfb hkb
   obtain ⟨hkb, hxb, hfb⟩ := HXb.out
   clear h9 hb9 hix t0 t1 t2 u0 u2 HX
   clear HOR
   go_upto_region 6 with fail
   refine wp_named (fun w3 hw => ?_)
   have hz3 : wL.heap.size + 0 ≤ w3.heap.size := by rw [hw]; first | omega | simp [World.setCell] <;> omega
   have hzz3 : w.heap.size ≤ w3.heap.size := by omega
   have hbn : Below wL.heap.size wL w3 := by rw [hw]; exact (by repeat with_reducible first | exact bR _ | apply bA | apply bD)
   replace HB := lH (below_then HB.out hbn HB.out.size)
   replace HOA := lH (HOA.out.below hbn)
   replace HXb := lH (HXb.out.below hbn)
   clear hxb hfb hkb
   obtain ⟨hkb, hxb, hfb⟩ := HXb.out
   clear hbn
   clear hw
   go_wp2_with (at_builtin; refine app1Str rfl _ _ rfl (w.heap.size + 1) _ _ _ rfl (HOA.out.1.alloc _) w3.heap.size lt rfl (NewBox.new w3 _ _) (by omega) (by first | omega | (simp; done) | (simp; omega)) ?_)
   intro v2 w2_ hown2 hg2
   obtain ⟨hrb, hon⟩ := rowB_app HOA.out.1 _ hown2 hg2
   obtain ⟨A9, g9, rfl, _, _, _⟩ := ownsRow_slice hown2
   rw [← strs_app, ← HT.out] at hrb
   have hzw2_ : w3.heap.size ≤ w2_.heap.size := hon.size
   have hzzw2_ : w.heap.size ≤ w2_.heap.size := by omega
   replace HB := lH (below_only HB.out hon (by omega) HB.out.size)
   replace HXb := lH (HXb.out.only hon (by first | omega | (simp; omega)))
   clear hxb hfb hkb
   obtain ⟨hkb, hxb, hfb⟩ := HXb.out
   clear HOA
   have HOA : Hid (RowB w2_ (w.heap.size + 1) (w2_.heap.size) (.slice A9 (k + 1) g9, k + 1) (strs (L.take (k + 1)))) := lH hrb
   clear hown2 hg2 hrb hon
   go_wp2
   go_roundw
   case rel => exact ⟨k + 1, A9, g9, by omega, by go_num, rfl, HXb.out, HOA.out, HB.out, by omega⟩
   case measure => simp [intOf]; omega
  ·skip
   obtain rfl : nr = k := by omega
   have HXX := lH HOA.out
   rw [show L.take nr = L from List.take_of_length_le (by rw [HLL.out, takenM_len, HN.out]; exact Nat.le_refl _)] at HXX
   clear HOA
   clear HOR
   have HOW := lH ((HXX.out.own rfl).mono (Nat.le_succ _) (Nat.le_refl _) (Nat.le_refl _))
   clear HXX
   go_wp2
   go_ret
   exact ⟨X, g, rfl, HOW.out, HB.out⟩
set_option maxRecDepth 100000 in
theorem implRootByT_c (width z a : Int) (root leaf : ByteArray) (P : Option Addr) (cp lo hi k : Nat) (pr : List ByteArray) (w : World) (hP : Rd w lo hi P (strs pr)) (hk : pr.length = k) (hkl : k ≤ 1048576) (hkc : k ≤ cp) (h1 : inOk width z a leaf pr = true) (h2 : inRt width z a leaf pr = root) :
  Calls Tryz.prog 37 #[.int .i64 width, .int .i64 z, .int .i64 a, .string leaf, .slice P k cp] w fun e w' => e = .returned (.tuple #[.string root, .bool true]) ∧ Below w.heap.size w w' := by
 have HRB := fun W (r : Rd W 0 W.heap.size P (strs pr)) => rootBy_c width z a leaf P cp 0 W.heap.size k pr W r hk hkl hkc
 rw [h1, h2] at HRB
 generalize inTx width z a leaf pr = tx at *
 replace HRB := lH HRB
 have HB : Hid (Below w.heap.size w w) := Below.refl _ _
 have HOP : Hid (Rd w (0) (w.heap.size) (P) (strs pr)) := Rd.base hP
 clear hP hk hkc h1 h2
 go_enter Tryz.func37, Tryz.ntmps37
 go_wp2_with fail
 refine calls_named (fun w1 hw => ?_)
 have hz1 : w.heap.size + 0 ≤ w1.heap.size := by rw [hw]; first | omega | simp [World.setCell] <;> omega
 have hbn : Below w.heap.size w w1 := by rw [hw]; exact (by repeat with_reducible first | exact bR _ | apply bA | apply bD)
 replace HB := lH (below_then HB.out hbn HB.out.size)
 replace HOP := lH (HOP.out.below hbn)
 clear hbn
 clear hw
 refine (HRB.out _ HOP.out.base).mono ?_
 rintro e w2 ⟨A9, c9, rfl, ho, hb⟩
 have hzw2 : w1.heap.size ≤ w2.heap.size := hb.size
 have hzzw2 : w.heap.size ≤ w2.heap.size := by omega
 replace HB := lH (below_then HB.out hb HB.out.size)
 replace HOP := lH (HOP.out.below hb)
 clear hb
 clear ho HRB
 go_wp2
 refine bodyPost_named (fun w3 hw => ?_)
 have hz3 : w2.heap.size + 0 ≤ w3.heap.size := by rw [hw]; first | omega | simp [World.setCell] <;> omega
 have hzz3 : w.heap.size ≤ w3.heap.size := by omega
 have hbn : Below w2.heap.size w2 w3 := by rw [hw]; exact (by repeat with_reducible first | exact bR _ | apply bA | apply bD)
 replace HB := lH (below_then HB.out hbn HB.out.size)
 replace HOP := lH (HOP.out.below hbn)
 clear hbn
 clear hw
 refine bodyPost_ret (v := .tuple #[.string root, .bool true]) (by simp [results, Tryz.results37, go_sem]) rfl ?_
 exact ⟨rfl, HB.out⟩
set_option maxRecDepth 100000 in
theorem implCheckInT_c (width z a : Int) (root leaf : ByteArray) (P : Option Addr) (cp lo hi k : Nat) (pr : List ByteArray) (w : World) (hP : Rd w lo hi P (strs pr)) (hk : pr.length = k) (hkl : k ≤ 1048576) (hkc : k ≤ cp) (h1 : inOk width z a leaf pr = true) (h2 : inRt width z a leaf pr = root) :
  Calls Tryz.prog 13 #[.int .i64 width, .string root, .int .i64 z, .int .i64 a, .string leaf, .slice P k cp] w fun e w' => e = .returned (.bool true) ∧ Below w.heap.size w w' := by
 have HRB := lH (fun W (r : Rd W 0 W.heap.size P (strs pr)) => implRootByT_c width z a root leaf P cp 0 W.heap.size k pr W r hk hkl hkc h1 h2)
 have e1 : (root.toList == root.toList) = true := beq_self_eq_true _
 have HB : Hid (Below w.heap.size w w) := Below.refl _ _
 have HOP : Hid (Rd w (0) (w.heap.size) (P) (strs pr)) := Rd.base hP
 clear hP hk hkc h1 h2
 go_enter Tryz.func13, Tryz.ntmps13
 go_wp2_with fail
 refine calls_named (fun w1 hw => ?_)
 have hz1 : w.heap.size + 0 ≤ w1.heap.size := by rw [hw]; first | omega | simp [World.setCell] <;> omega
 have hbn : Below w.heap.size w w1 := by rw [hw]; exact (by repeat with_reducible first | exact bR _ | apply bA | apply bD)
 replace HB := lH (below_then HB.out hbn HB.out.size)
 replace HOP := lH (HOP.out.below hbn)
 clear hbn
 clear hw
 refine (HRB.out _ HOP.out.base).mono ?_
 rintro e w2 ⟨rfl, hb⟩
 have hzw2 : w1.heap.size ≤ w2.heap.size := hb.size
 have hzzw2 : w.heap.size ≤ w2.heap.size := by omega
 replace HB := lH (below_then HB.out hb HB.out.size)
 replace HOP := lH (HOP.out.below hb)
 clear hb
 clear HRB
 go_wp2
 go_ret
 exact ⟨rfl, HB.out⟩
end
end Go.Proofs.YtoccjgcokffkbaaGreat
