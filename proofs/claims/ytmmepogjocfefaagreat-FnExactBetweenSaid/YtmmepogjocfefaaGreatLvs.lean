/- Hashes of the first entries and receipts of a broker. -/
import Derived.Test.YtmmepogjocfefaaGreatBoks
import Derived.StillTailTactics
namespace Go.Proofs.YtmmepogjocfefaaGreat
set_option linter.unusedVariables false
set_option linter.unusedSimpArgs false
open Go.RowKit
theorem RowB.ownB {w : World} {lo hi n c m : Nat} {A : Option Addr} {xs : List Value} (h : RowB w lo hi (.slice A n c, m) xs) (hm : m = n) (hh : hi ≤ w.heap.size) (hl : lo ≤ w.heap.size) : Own w lo hi A xs := by
 subst hm
 rcases row_one h.1 hl with rfl | ⟨g, rfl, h1, h2, h3⟩
 ·exact Own.nil
 ·exact h3.mono h1 (h.2 g rfl) hh

theorem slicePreR (A : Option Addr) (k g m : Nat) (h : m ≤ g) (W : World) : (Instr.slice 45 (.slice A k g) none (some (.int .i64 m)) none).run Tryz.prog W = .ok (.slice A m g) W := by
 have h1 : (m : Int) ≤ g := by omega
 rcases A with _ | ⟨b, off, sp⟩
 ·go_simp
 ·by_cases hg : g = 0
  ·subst hg
   obtain rfl : m = 0 := by omega
   go_simp
  ·rcases sp with _ | sp <;> go_simp
theorem rcps_take (l : List Rcp) (k : Nat) : rcps l = rcps (l.take k) ++ rcps (l.drop k) := by rw [rcps, rcps, rcps, ← List.flatMap_append, List.take_append_drop]
theorem Rd.rcpsTake {w : World} {lo hi : Nat} {A : Option Addr} {l : List Rcp} (h : Rd w lo hi A (rcps l)) (k : Nat) : Rd w lo hi A (rcps (l.take k)) := by
 rw [rcps_take l k] at h; exact h.pre
set_option maxRecDepth 100000 in
set_option maxHeartbeats 4000000 in
theorem leaves_c (width z1 z2 : Int) (p m : Nat) (E R H A1 A2 : Option Addr) (ne nr nh ce cr ch c1 c2 lo1 hi1 m1 m2 : Nat) (es : List Ent) (h : Hd) (w : World) (hbx : NewBox w p [.int .i64 width, .slice E ne ce, .slice R nr cr, .slice H nh ch, .int .i64 z1, .slice A1 m1 c1, .int .i64 z2, .slice A2 m2 c2, .int .i64 h.num, .int .i64 h.size, .string h.root, .int .i64 h.taken, .string h.troot]) (hE : Rd w lo1 hi1 E (ents es)) (hne : es.length = ne) (h1 : ne ≤ 1048576) (hc : ne ≤ ce) (hm : m ≤ ne) (hfe : ∀ x ∈ es, x.fits) :
  Calls Tryz.prog 128 #[.pointer (some ⟨p, 0, none⟩), .int .i64 m] w fun e w' => ∃ A' c', e = .returned (.slice A' m c') ∧ w'.ownsRow w.heap.size 9 1 (.slice A' m c') m (strs ((leavesM width es).take m)) ∧ Below w.heap.size w w' := by
 have HC := Lib.hid (fun W (a : Rd W 0 W.heap.size E (ents es)) => hashesOf_c width E ce 0 W.heap.size m (es.take m) W (a.entsTake m) (by rw [List.length_take]; omega) (by omega) (fun x hx => hfe x (List.mem_of_mem_take hx)))
 rw [show (es.take m).map (leafHashM width) = (leavesM width es).take m from List.map_take] at HC
 have hpe := slicePreE E ne ce m (by omega)
 have HE := Lib.hid hE
 have hkb := hbx.1
 have c0 := hbx.cell (o := 0) rfl
 have cE := hbx.cell (o := 1) rfl
 generalize (leavesM width es).take m = lt at *
 clear hbx hE hne hfe
 go_enter Tryz.func128, Tryz.ntmps128
 go_wp2_with fail
 go_still_tail 12, (by kernel_rfl)
 change wpList _ _ _ _ _ w.drew
 generalize hwd : w.drew = w6
 have HB6 : Hid (Below w.heap.size w w6) := by rw [Hid, ← hwd]; exact (Below.refl _ _).drew
 clear hwd c0 cE hpe
 go_wp2_with fail
 refine (HC.out _ (HE.out.below HB6.out).base).mono ?_
 rintro e w7 ⟨A7, c7, rfl, ho, hb⟩
 have hs6 := HB6.out.size
 have HO := Lib.hid (row_mono ho hs6)
 have HB7 := Lib.hid (below_then HB6.out hb HB6.out.size)
 clear ho hb HC
 go_wp2
 go_ret
 exact ⟨A7, c7, rfl, HO.out, HB7.out⟩
set_option maxRecDepth 100000 in
set_option maxHeartbeats 4000000 in
theorem takens_c (width z1 z2 : Int) (p m : Nat) (E R H A1 A2 : Option Addr) (ne nr nh ce cr ch c1 c2 lo1 hi1 m1 m2 : Nat) (rs : List Rcp) (h : Hd) (w : World) (hbx : NewBox w p [.int .i64 width, .slice E ne ce, .slice R nr cr, .slice H nh ch, .int .i64 z1, .slice A1 m1 c1, .int .i64 z2, .slice A2 m2 c2, .int .i64 h.num, .int .i64 h.size, .string h.root, .int .i64 h.taken, .string h.troot]) (hR : Rd w lo1 hi1 R (rcps rs)) (hnr : rs.length = nr) (h1 : nr ≤ 1048576) (hc : nr ≤ cr) (hm : m ≤ nr) (hfr : ∀ x ∈ rs, x.fits) :
  Calls Tryz.prog 92 #[.pointer (some ⟨p, 0, none⟩), .int .i64 m] w fun e w' => ∃ A' c', e = .returned (.slice A' m c') ∧ w'.ownsRow w.heap.size 9 1 (.slice A' m c') m (strs ((takenM width rs).take m)) ∧ Below w.heap.size w w' := by
 have HC := Lib.hid (fun W (a : Rd W 0 W.heap.size R (rcps rs)) => receiptHashes_c width R cr 0 W.heap.size m (rs.take m) W (a.rcpsTake m) (by rw [List.length_take]; omega) (by omega) (fun x hx => hfr x (List.mem_of_mem_take hx)))
 rw [show (rs.take m).map (rcpHashM width) = (takenM width rs).take m from List.map_take] at HC
 have hpe := slicePreR R nr cr m (by omega)
 have HE := Lib.hid hR
 have hkb := hbx.1
 have c0 := hbx.cell (o := 0) rfl
 have cE := hbx.cell (o := 2) rfl
 generalize (takenM width rs).take m = lt at *
 clear hbx hR hnr hfr
 go_enter Tryz.func92, Tryz.ntmps92
 go_wp2_with fail
 go_still_tail 10, (by kernel_rfl)
 change wpList _ _ _ _ _ w.drew
 generalize hwd : w.drew = w6
 have HB6 : Hid (Below w.heap.size w w6) := by rw [Hid, ← hwd]; exact (Below.refl _ _).drew
 clear hwd c0 cE hpe
 go_wp2_with fail
 refine (HC.out _ (HE.out.below HB6.out).base).mono ?_
 rintro e w7 ⟨A7, c7, rfl, ho, hb⟩
 have hs6 := HB6.out.size
 have HO := Lib.hid (row_mono ho hs6)
 have HB7 := Lib.hid (below_then HB6.out hb HB6.out.size)
 clear ho hb HC
 go_wp2
 go_ret
 exact ⟨A7, c7, rfl, HO.out, HB7.out⟩
end Go.Proofs.YtmmepogjocfefaaGreat
