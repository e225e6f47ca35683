/- FnCutBytes: the walk. -/
import Derived.Test.YtoccjgcokffkbaaDrawA
import Derived.BigQuiet
import Derived.Deep.QuietTactic
namespace Go.Proofs.Ytoccjgcokffkbaa
set_option linter.unusedVariables false
set_option linter.unusedSimpArgs false
open Go.RowKit

set_option maxRecDepth 100000 in
set_option maxHeartbeats 4000000 in
theorem walk_FnCutBytes (n g : Nat) (B : Option Addr) (l0 : List Int) (w : World) (hr : Rd w 0 w.heap.size B (bys l0)) (hl : l0.length = n) (hng : n ≤ g) (hn : n ≤ maxLen) (hb : ∀ x ∈ l0, 0 ≤ x ∧ x ≤ 255) :
  Calls Try.prog 3 #[.slice B n g] w fun e w' => e = .returned (.bool true) ∧ Below w.heap.size w w' := by
 by_cases h20 : 1048576 < n
 ·have hd : decide (1048576 < n) = true := decide_eq_true h20
  go_enter Try.func3, Try.ntmps3
  go_wp2_with fail
  refine (big_c n g B _ hn).mono ?_
  rintro e w1 ⟨rfl, rfl⟩
  rw [hd]
  go_wp2
  go_ret
  exact ⟨rfl, Below.refl _ _⟩
 ·have hd : decide (1048576 < n) = false := decide_eq_false h20
  have HDA := Lib.hid (fun W (r : Rd W 0 W.heap.size B (bys l0)) => DrawAppends_c n g 0 W.heap.size B l0 W r hl (by omega) hb)
  have HDP := Lib.hid (fun W (r : Rd W 0 W.heap.size B (bys l0)) => DrawPlaces_c n g 0 W.heap.size B l0 W r hl (by omega) hb)
  have HB : Hid (Below w.heap.size w w) := Below.refl _ _
  have HOQ : Hid (Rd w (0) (w.heap.size) (B) (bys l0)) := Rd.base hr
  clear hr hl hb hng
  go_enter Try.func3, Try.ntmps3
  go_wp2_with fail
  refine (big_c n g B _ hn).mono ?_
  rintro e w0_ ⟨rfl, rfl⟩
  rw [hd]
  clear hd hn
  go_wp2_with fail
  refine calls_named (fun w1 hw => ?_)
  have hz1 : w.heap.size + 0 ≤ w1.heap.size := by rw [hw]; first | omega | (simp [World.setCell]; done) | (simp [World.setCell]; omega)
  have hbn : Below w.heap.size w w1 := by rw [hw]; exact (by ((repeat (first | ((with_reducible refine Below.alloc ?_ ?_ _); rotate_left 1; (focus (first | omega | (simp; done) | (simp; omega)))) | (with_reducible refine Below.drew ?_) | ((with_reducible refine Below.setCell ?_ ?_ _); rotate_left 1; (focus (first | omega | (simp; done) | (simp; omega)))))); exact Below.refl _ _))
  replace HB := Lib.hid (below_then HB.out hbn HB.out.size)
  replace HOQ := Lib.hid (HOQ.out.below hbn)
  clear hbn
  clear hw
  refine (HDA.out _ HOQ.out.base).mono ?_
  rintro e w2 ⟨d, ws, A, c, X, cx, m, rfl, ⟨hsm, hap, hwm, hm6, hmc, hXn, hft, hrd, hrx⟩, hb⟩
  have hzw2 : w1.heap.size ≤ w2.heap.size := hb.size
  have hzzw2 : w.heap.size ≤ w2.heap.size := by omega
  replace HB := Lib.hid (below_then HB.out hb HB.out.size)
  replace HOQ := Lib.hid (HOQ.out.below hb)
  clear hb
  have HOD : Hid (Rd w2 (0) (w2.heap.size) (A) (strs d)) := Lib.hid hrd
  have HOX : Hid (Rd w2 (0) (w2.heap.size) (X) (wris ws)) := Lib.hid hrx
  have HT8 := Lib.hid (apps_text hap)
  have hpl := put_law hsm (by omega) hap
  have hca := cut_all hsm hwm (by omega) hap
  have hbg := (apps_all (N := 8) hsm (by omega) hap).2.1
  have hpa := fun W (r1 : Rd W 0 W.heap.size A (strs d)) (r2 : Rd W 0 W.heap.size X (wris ws)) => implPutAll_c A c 0 W.heap.size 3 d X cx 0 W.heap.size m ws W r1 hsm.1 (by omega) r2 hwm (by omega) hft
  have hce := fun W (r1 : Rd W 0 W.heap.size A (strs d)) (r2 : Rd W 0 W.heap.size X (wris ws)) => implCutAt_c A c 0 W.heap.size 3 d X cx 0 W.heap.size m ws m 0 W r1 hsm.1 (by omega) r2 hwm (by omega) hmc hXn hft (by constructor <;> omega) (by constructor <;> omega)
  have hla := fun (k p : Nat) (h1 : k ≤ ws.length) h2 h3 => cut_law (k := k) (p := p) hsm (by omega) hap h1 h2 h3
  rw [hpl.1, hpl.2.1, hwm] at hpa
  rw [hca.1, hca.2] at hce
  generalize putAllL d ws = L at *
  rw [hpl.2.2.1] at hpa hce
  have HPA := Lib.hid hpa
  have HCE := Lib.hid hce
  have HLA := Lib.hid hla
  have HCA : Hid (cutOkM d ws m 0 = true ∧ BegD d (cutAtM d ws m 0) ∧ BegD (cutAtM d ws m 0) L ∧ Sm (cutAtM d ws m 0) 2000) := Lib.hid (by rw [hca.2]; exact ⟨hca.1, hbg, BegD.refl _, hpl.2.2⟩)
  have HPM := Lib.hid hpl.2.2
  have HL3 : Hid (L.length = 3) := Lib.hid hpl.2.2.1
  have HD3 : Hid (d.length = 3) := Lib.hid hsm.1
  have HWM := Lib.hid hwm
  have HXN := Lib.hid hXn
  have HFT := Lib.hid hft
  clear hrd hrx hpl hca hbg hpa hce hla hsm hap hwm hXn hft HDA
  go_wp2_with fail
  refine calls_named (fun w3 hw => ?_)
  have hz3 : w2.heap.size + 1 ≤ w3.heap.size := by rw [hw]; first | omega | (simp [World.setCell]; done) | (simp [World.setCell]; omega)
  have hzz3 : w.heap.size ≤ w3.heap.size := by omega
  have hbn : Below w2.heap.size w2 w3 := by rw [hw]; exact (by ((repeat (first | ((with_reducible refine Below.alloc ?_ ?_ _); rotate_left 1; (focus (first | omega | (simp; done) | (simp; omega)))) | (with_reducible refine Below.drew ?_) | ((with_reducible refine Below.setCell ?_ ?_ _); rotate_left 1; (focus (first | omega | (simp; done) | (simp; omega)))))); exact Below.refl _ _))
  replace HB := Lib.hid (below_then HB.out hbn HB.out.size)
  replace HOQ := Lib.hid (HOQ.out.below hbn)
  replace HOD := Lib.hid (HOD.out.below hbn)
  replace HOX := Lib.hid (HOX.out.below hbn)
  clear hbn
  have HXbd : Hid (NewBox w3 (w2.heap.size) [.slice A 3 c]) := by rw [Hid, hw]; exact ⟨by first | omega | (simp [World.setCell]; done) | (simp [World.setCell]; omega), fun o => by rcases o with _ | o <;> go_simp, fun o => by go_simp⟩
  have hxbd := HXbd.out.2.1
  have hfbd := HXbd.out.2.2
  have hkbd := HXbd.out.1
  clear hw
  refine (HDP.out _ HOQ.out.base).mono ?_
  rintro e w4 ⟨A2, c2, xs, rfl, hxl, hxb, hxo, hb⟩
  have hzw4 : w3.heap.size ≤ w4.heap.size := hb.size
  have hzzw4 : w.heap.size ≤ w4.heap.size := by omega
  replace HB := Lib.hid (below_then HB.out hb HB.out.size)
  replace HOQ := Lib.hid (HOQ.out.below hb)
  replace HOD := Lib.hid (HOD.out.below hb)
  replace HOX := Lib.hid (HOX.out.below hb)
  replace HXbd := Lib.hid (HXbd.out.below hb)
  clear hxbd hfbd hkbd
  have hxbd := HXbd.out.2.1
  have hfbd := HXbd.out.2.2
  have hkbd := HXbd.out.1
  clear hb
  clear HOQ
  obtain ⟨x0, hx0⟩ : ∃ x, xs[0]? = some x := ⟨_, List.getElem?_eq_getElem (by omega)⟩
  obtain ⟨x1, hx1⟩ : ∃ x, xs[1]? = some x := ⟨_, List.getElem?_eq_getElem (by omega)⟩
  obtain ⟨b9, o9, hA9, _, hb9, _, hcell⟩ := (Own.of_ownsRow hxo).rd (by intro e; have h := hxl; rw [ints, List.map_eq_nil_iff] at e; rw [e] at h; cases h)
  have hp0 : w4.cell? ⟨b9, o9, none⟩ = some (.int .i64 x0) := by have h := hcell 0 _ (ints_get hx0); rwa [Nat.add_zero] at h
  have hp1 : w4.cell? ⟨b9, o9 + 1, none⟩ = some (.int .i64 x1) := hcell 1 _ (ints_get hx1)
  have x00 := hxb x0 (List.mem_of_getElem? hx0)
  have x11 := hxb x1 (List.mem_of_getElem? hx1)
  subst hA9
  clear hcell hx0 hx1 hxb hxo hxl HDP
  have EM : IntKind.i64.wrap ((m : Int) + 1) = (m : Int) + 1 := by rw [IntKind.wrap_i64]; omega
  have hm0 : ((m : Int) + 1 == 0) = false := beq_eq_false_iff_ne.2 (by omega)
  obtain ⟨k, E1, hkm⟩ : ∃ k : Nat, x0.tmod ((m : Int) + 1) = (k : Int) ∧ k ≤ m := by
   have h1 := Int.emod_nonneg x0 (show (m : Int) + 1 ≠ 0 by omega)
   have h2 := Int.emod_lt_of_pos x0 (show 0 < (m : Int) + 1 by omega)
   exact ⟨(x0 % ((m : Int) + 1)).toNat, by rw [Int.tmod_eq_emod_of_nonneg x00.1]; omega, by omega⟩
  by_cases hlt : k < m
  ·skip
   obtain ⟨bx, ox, x, hXe, _, _, hbx, hks, hcx⟩ := HOX.out.flat (f := Wri.cells) (m := 3) (fun _ => rfl) (by omega) (k := k) (by rw [HWM.out]; exact hlt)
   have hct : w4.cell? ⟨bx, ox + k * 3 + 2, none⟩ = some (.string x.text) := hcx 2 _ rfl
   have HKS := Lib.hid hks
   have htz : x.text.size ≤ 8 := HT8.out x (List.mem_of_getElem? hks)
   have EM2 : IntKind.i64.wrap ((x.text.size : Int) + 1) = (x.text.size : Int) + 1 := by rw [IntKind.wrap_i64]; omega
   have hm2 : ((x.text.size : Int) + 1 == 0) = false := beq_eq_false_iff_ne.2 (by omega)
   obtain ⟨p, E2, hpx⟩ : ∃ p : Nat, x1.tmod ((x.text.size : Int) + 1) = (p : Int) ∧ p ≤ x.text.size := by
    have h1 := Int.emod_nonneg x1 (show (x.text.size : Int) + 1 ≠ 0 by omega)
    have h2 := Int.emod_lt_of_pos x1 (show 0 < (x.text.size : Int) + 1 by omega)
    exact ⟨(x1 % ((x.text.size : Int) + 1)).toNat, by rw [Int.tmod_eq_emod_of_nonneg x11.1]; omega, by omega⟩
   have HPX : Hid (∀ y, ws[k]? = some y → p ≤ y.text.size) := Lib.hid (fun y hy => by rw [hks] at hy; cases hy; exact hpx)
   have hI : (k : Int) < m := by omega
   have hpb : p ≤ 1000000000 := by omega
   clear hcx hks hpx
   subst hXe
   go_wp2_with fail
   go_quiet (fail)
   generalize hw5 : (w4).drewN _ = w5_
   have hb5 : Below w4.heap.size w4 w5_ := by rw [← hw5]; exact below_drewN _ _
   clear hw5 hct hp0 hp1 EM EM2 hm0 hm2 E1 E2
   have hzw5_ : w4.heap.size ≤ w5_.heap.size := hb5.size
   have hzzw5_ : w.heap.size ≤ w5_.heap.size := by omega
   replace HB := Lib.hid (below_then HB.out hb5 HB.out.size)
   replace HOD := Lib.hid (HOD.out.below hb5)
   replace HOX := Lib.hid (HOX.out.below hb5)
   replace HXbd := Lib.hid (HXbd.out.below hb5)
   clear hxbd hfbd hkbd
   have hxbd := HXbd.out.2.1
   have hfbd := HXbd.out.2.2
   have hkbd := HXbd.out.1
   clear hb5
   have hlw0 : cutOkM d ws (k : Nat) (p : Nat) = true ∧ BegD d (cutAtM d ws (k : Nat) (p : Nat)) ∧ BegD (cutAtM d ws (k : Nat) (p : Nat)) L ∧ Sm (cutAtM d ws (k : Nat) (p : Nat)) 2000 := HLA.out k p (by rw [HWM.out]; exact hkm) HPX.out (fun e => by rw [HWM.out] at e; omega)
   have hck := fun W (r1 : Rd W 0 W.heap.size A (strs d)) (r2 : Rd W 0 W.heap.size (some ⟨bx, ox, none⟩) (wris ws)) => implCutAt_c A c 0 W.heap.size 3 d (some ⟨bx, ox, none⟩) cx 0 W.heap.size m ws (k : Nat) (p : Nat) W r1 HD3.out (by omega) r2 HWM.out (by omega) hmc HXN.out HFT.out (by constructor <;> omega) (by constructor <;> omega)
   generalize cutAtM d ws (k : Nat) (p : Nat) = C at *
   obtain ⟨hl1, hl2, hl3, hl4⟩ := hlw0
   rw [hl1, hl4.1] at hck
   have HCK := Lib.hid hck
   have HLW := Lib.hid (And.intro hl2 (And.intro hl3 hl4))
   clear hl1 hl2 hl3 hl4 hck
   go_wp2_with fail
   refine calls_named (fun w5 hw => ?_)
   have hz5 : w5_.heap.size + 0 ≤ w5.heap.size := by rw [hw]; first | omega | (simp [World.setCell]; done) | (simp [World.setCell]; omega)
   have hzz5 : w.heap.size ≤ w5.heap.size := by omega
   have hbn : Below w5_.heap.size w5_ w5 := by rw [hw]; exact (by ((repeat (first | ((with_reducible refine Below.alloc ?_ ?_ _); rotate_left 1; (focus (first | omega | (simp; done) | (simp; omega)))) | (with_reducible refine Below.drew ?_) | ((with_reducible refine Below.setCell ?_ ?_ _); rotate_left 1; (focus (first | omega | (simp; done) | (simp; omega)))))); exact Below.refl _ _))
   replace HB := Lib.hid (below_then HB.out hbn HB.out.size)
   replace HOD := Lib.hid (HOD.out.below hbn)
   replace HOX := Lib.hid (HOX.out.below hbn)
   replace HXbd := Lib.hid (HXbd.out.below hbn)
   clear hxbd hfbd hkbd
   have hxbd := HXbd.out.2.1
   have hfbd := HXbd.out.2.2
   have hkbd := HXbd.out.1
   clear hbn
   clear hw
   refine (HPA.out _ HOD.out.base HOX.out.base).mono ?_
   rintro e w6 ⟨An, cn, rfl, ho, hb⟩
   have hzw6 : w5.heap.size ≤ w6.heap.size := hb.size
   have hzzw6 : w.heap.size ≤ w6.heap.size := by omega
   replace HB := Lib.hid (below_then HB.out hb HB.out.size)
   replace HOD := Lib.hid (HOD.out.below hb)
   replace HOX := Lib.hid (HOX.out.below hb)
   replace HXbd := Lib.hid (HXbd.out.below hb)
   clear hxbd hfbd hkbd
   have hxbd := HXbd.out.2.1
   have hfbd := HXbd.out.2.2
   have hkbd := HXbd.out.1
   clear hb
   have HON : Hid (Own w6 (w5.heap.size) (w6.heap.size) (An) (strs L)) := Lib.hid ho
   clear ho
   go_wp2_with fail
   refine calls_named (fun w7 hw => ?_)
   have hz7 : w6.heap.size + 1 ≤ w7.heap.size := by rw [hw]; first | omega | (simp [World.setCell]; done) | (simp [World.setCell]; omega)
   have hzz7 : w.heap.size ≤ w7.heap.size := by omega
   have hbn : Below w6.heap.size w6 w7 := by rw [hw]; exact (by ((repeat (first | ((with_reducible refine Below.alloc ?_ ?_ _); rotate_left 1; (focus (first | omega | (simp; done) | (simp; omega)))) | (with_reducible refine Below.drew ?_) | ((with_reducible refine Below.setCell ?_ ?_ _); rotate_left 1; (focus (first | omega | (simp; done) | (simp; omega)))))); exact Below.refl _ _))
   replace HB := Lib.hid (below_then HB.out hbn HB.out.size)
   replace HOD := Lib.hid (HOD.out.below hbn)
   replace HOX := Lib.hid (HOX.out.below hbn)
   replace HON := Lib.hid (HON.out.below hbn)
   replace HXbd := Lib.hid (HXbd.out.below hbn)
   clear hxbd hfbd hkbd
   have hxbd := HXbd.out.2.1
   have hfbd := HXbd.out.2.2
   have hkbd := HXbd.out.1
   clear hbn
   have HXba : Hid (NewBox w7 (w6.heap.size) [.slice An 3 cn]) := by rw [Hid, hw]; exact ⟨by first | omega | (simp [World.setCell]; done) | (simp [World.setCell]; omega), fun o => by rcases o with _ | o <;> go_simp, fun o => by go_simp⟩
   have hxba := HXba.out.2.1
   have hfba := HXba.out.2.2
   have hkba := HXba.out.1
   clear hw
   refine (HCK.out _ HOD.out.base HOX.out.base).mono ?_
   rintro e w8 ⟨Ac, cc, rfl, hoc, hb⟩
   have hzw8 : w7.heap.size ≤ w8.heap.size := hb.size
   have hzzw8 : w.heap.size ≤ w8.heap.size := by omega
   replace HB := Lib.hid (below_then HB.out hb HB.out.size)
   replace HOD := Lib.hid (HOD.out.below hb)
   replace HOX := Lib.hid (HOX.out.below hb)
   replace HON := Lib.hid (HON.out.below hb)
   replace HXbd := Lib.hid (HXbd.out.below hb)
   clear hxbd hfbd hkbd
   have hxbd := HXbd.out.2.1
   have hfbd := HXbd.out.2.2
   have hkbd := HXbd.out.1
   replace HXba := Lib.hid (HXba.out.below hb)
   clear hxba hfba hkba
   have hxba := HXba.out.2.1
   have hfba := HXba.out.2.2
   have hkba := HXba.out.1
   clear hb
   have HOK : Hid (Own w8 (w7.heap.size) (w8.heap.size) (Ac) (strs C)) := Lib.hid hoc
   clear hoc
   go_wp2_with fail
   refine calls_named (fun w9 hw => ?_)
   have hz9 : w8.heap.size + 1 ≤ w9.heap.size := by rw [hw]; first | omega | (simp [World.setCell]; done) | (simp [World.setCell]; omega)
   have hzz9 : w.heap.size ≤ w9.heap.size := by omega
   have hbn : Below w8.heap.size w8 w9 := by rw [hw]; exact (by ((repeat (first | ((with_reducible refine Below.alloc ?_ ?_ _); rotate_left 1; (focus (first | omega | (simp; done) | (simp; omega)))) | (with_reducible refine Below.drew ?_) | ((with_reducible refine Below.setCell ?_ ?_ _); rotate_left 1; (focus (first | omega | (simp; done) | (simp; omega)))))); exact Below.refl _ _))
   replace HB := Lib.hid (below_then HB.out hbn HB.out.size)
   replace HOD := Lib.hid (HOD.out.below hbn)
   replace HOX := Lib.hid (HOX.out.below hbn)
   replace HON := Lib.hid (HON.out.below hbn)
   replace HOK := Lib.hid (HOK.out.below hbn)
   replace HXbd := Lib.hid (HXbd.out.below hbn)
   clear hxbd hfbd hkbd
   have hxbd := HXbd.out.2.1
   have hfbd := HXbd.out.2.2
   have hkbd := HXbd.out.1
   replace HXba := Lib.hid (HXba.out.below hbn)
   clear hxba hfba hkba
   have hxba := HXba.out.2.1
   have hfba := HXba.out.2.2
   have hkba := HXba.out.1
   clear hbn
   have HXbc : Hid (NewBox w9 (w8.heap.size) [.slice Ac 3 cc]) := by rw [Hid, hw]; exact ⟨by first | omega | (simp [World.setCell]; done) | (simp [World.setCell]; omega), fun o => by rcases o with _ | o <;> go_simp, fun o => by go_simp⟩
   have hxbc := HXbc.out.2.1
   have hfbc := HXbc.out.2.2
   have hkbc := HXbc.out.1
   clear hw
   refine (HCE.out _ HOD.out.base HOX.out.base).mono ?_
   rintro e w10 ⟨Ae, ce, rfl, hoe, hb⟩
   have hzw10 : w9.heap.size ≤ w10.heap.size := hb.size
   have hzzw10 : w.heap.size ≤ w10.heap.size := by omega
   replace HB := Lib.hid (below_then HB.out hb HB.out.size)
   replace HOD := Lib.hid (HOD.out.below hb)
   replace HOX := Lib.hid (HOX.out.below hb)
   replace HON := Lib.hid (HON.out.below hb)
   replace HOK := Lib.hid (HOK.out.below hb)
   replace HXbd := Lib.hid (HXbd.out.below hb)
   clear hxbd hfbd hkbd
   have hxbd := HXbd.out.2.1
   have hfbd := HXbd.out.2.2
   have hkbd := HXbd.out.1
   replace HXba := Lib.hid (HXba.out.below hb)
   clear hxba hfba hkba
   have hxba := HXba.out.2.1
   have hfba := HXba.out.2.2
   have hkba := HXba.out.1
   replace HXbc := Lib.hid (HXbc.out.below hb)
   clear hxbc hfbc hkbc
   have hxbc := HXbc.out.2.1
   have hfbc := HXbc.out.2.2
   have hkbc := HXbc.out.1
   clear hb
   have HOE : Hid (Own w10 (w9.heap.size) (w10.heap.size) (Ae) (strs L)) := Lib.hid hoe
   clear hoe HPA HCK HCE
   go_wp2_with fail
   refine calls_named (fun w11 hw => ?_)
   have hz11 : w10.heap.size + 1 ≤ w11.heap.size := by rw [hw]; first | omega | (simp [World.setCell]; done) | (simp [World.setCell]; omega)
   have hzz11 : w.heap.size ≤ w11.heap.size := by omega
   have hbn : Below w10.heap.size w10 w11 := by rw [hw]; exact (by ((repeat (first | ((with_reducible refine Below.alloc ?_ ?_ _); rotate_left 1; (focus (first | omega | (simp; done) | (simp; omega)))) | (with_reducible refine Below.drew ?_) | ((with_reducible refine Below.setCell ?_ ?_ _); rotate_left 1; (focus (first | omega | (simp; done) | (simp; omega)))))); exact Below.refl _ _))
   replace HB := Lib.hid (below_then HB.out hbn HB.out.size)
   replace HOD := Lib.hid (HOD.out.below hbn)
   replace HOX := Lib.hid (HOX.out.below hbn)
   replace HON := Lib.hid (HON.out.below hbn)
   replace HOK := Lib.hid (HOK.out.below hbn)
   replace HOE := Lib.hid (HOE.out.below hbn)
   replace HXbd := Lib.hid (HXbd.out.below hbn)
   clear hxbd hfbd hkbd
   have hxbd := HXbd.out.2.1
   have hfbd := HXbd.out.2.2
   have hkbd := HXbd.out.1
   replace HXba := Lib.hid (HXba.out.below hbn)
   clear hxba hfba hkba
   have hxba := HXba.out.2.1
   have hfba := HXba.out.2.2
   have hkba := HXba.out.1
   replace HXbc := Lib.hid (HXbc.out.below hbn)
   clear hxbc hfbc hkbc
   have hxbc := HXbc.out.2.1
   have hfbc := HXbc.out.2.2
   have hkbc := HXbc.out.1
   clear hbn
   have HXbe : Hid (NewBox w11 (w10.heap.size) [.slice Ae 3 ce]) := by rw [Hid, hw]; exact ⟨by first | omega | (simp [World.setCell]; done) | (simp [World.setCell]; omega), fun o => by rcases o with _ | o <;> go_simp, fun o => by go_simp⟩
   have hxbe := HXbe.out.2.1
   have hfbe := HXbe.out.2.2
   have hkbe := HXbe.out.1
   clear hw
   refine (sameDisk_c Ae An ce cn 0 (w11).heap.size 0 (w11).heap.size 3 L w11 HOE.out.rd.base HON.out.rd.base HL3.out (by omega)).mono ?_
   rintro e w12 ⟨rfl, hb⟩
   have hzw12 : w11.heap.size ≤ w12.heap.size := hb.size
   have hzzw12 : w.heap.size ≤ w12.heap.size := by omega
   replace HB := Lib.hid (below_then HB.out hb HB.out.size)
   replace HOD := Lib.hid (HOD.out.below hb)
   replace HOX := Lib.hid (HOX.out.below hb)
   replace HON := Lib.hid (HON.out.below hb)
   replace HOK := Lib.hid (HOK.out.below hb)
   replace HOE := Lib.hid (HOE.out.below hb)
   replace HXbd := Lib.hid (HXbd.out.below hb)
   clear hxbd hfbd hkbd
   have hxbd := HXbd.out.2.1
   have hfbd := HXbd.out.2.2
   have hkbd := HXbd.out.1
   replace HXba := Lib.hid (HXba.out.below hb)
   clear hxba hfba hkba
   have hxba := HXba.out.2.1
   have hfba := HXba.out.2.2
   have hkba := HXba.out.1
   replace HXbc := Lib.hid (HXbc.out.below hb)
   clear hxbc hfbc hkbc
   have hxbc := HXbc.out.2.1
   have hfbc := HXbc.out.2.2
   have hkbc := HXbc.out.1
   replace HXbe := Lib.hid (HXbe.out.below hb)
   clear hxbe hfbe hkbe
   have hxbe := HXbe.out.2.1
   have hfbe := HXbe.out.2.2
   have hkbe := HXbe.out.1
   clear hb
   clear HOE
   clear HOX
   clear hxbe hfbe hkbe HXbe
   go_wp2
   refine wp_named (fun w13 hw => ?_)
   have hz13 : w12.heap.size + 0 ≤ w13.heap.size := by rw [hw]; first | omega | (simp [World.setCell]; done) | (simp [World.setCell]; omega)
   have hzz13 : w.heap.size ≤ w13.heap.size := by omega
   have hbn : Below w12.heap.size w12 w13 := by rw [hw]; exact (by ((repeat (first | ((with_reducible refine Below.alloc ?_ ?_ _); rotate_left 1; (focus (first | omega | (simp; done) | (simp; omega)))) | (with_reducible refine Below.drew ?_) | ((with_reducible refine Below.setCell ?_ ?_ _); rotate_left 1; (focus (first | omega | (simp; done) | (simp; omega)))))); exact Below.refl _ _))
   replace HB := Lib.hid (below_then HB.out hbn HB.out.size)
   replace HOD := Lib.hid (HOD.out.below hbn)
   replace HON := Lib.hid (HON.out.below hbn)
   replace HOK := Lib.hid (HOK.out.below hbn)
   replace HXbd := Lib.hid (HXbd.out.below hbn)
   clear hxbd hfbd hkbd
   have hxbd := HXbd.out.2.1
   have hfbd := HXbd.out.2.2
   have hkbd := HXbd.out.1
   replace HXba := Lib.hid (HXba.out.below hbn)
   clear hxba hfba hkba
   have hxba := HXba.out.2.1
   have hfba := HXba.out.2.2
   have hkba := HXba.out.1
   replace HXbc := Lib.hid (HXbc.out.below hbn)
   clear hxbc hfbc hkbc
   have hxbc := HXbc.out.2.1
   have hfbc := HXbc.out.2.2
   have hkbc := HXbc.out.1
   clear hbn
   clear hw
   go_loopw [14] (fun i wr => ∃ j : Nat, j ≤ 3 ∧ i = .int .i64 j ∧ Below w13.heap.size w13 wr) (fun i _ => 3 - (intOf i).toNat)
   case atStart => exact ⟨0, Nat.zero_le _, rfl, Below.refl _ _⟩
   case round =>
    obtain ⟨j, hj, rfl, hbj⟩ := hrel
    have HBJ := Lib.hid hbj
    clear hbj
    by_cases hjt : j < 3
    ·obtain ⟨b1, o1, s, rfl, hb1, hs1, hc1⟩ := (HOK.out.below HBJ.out).rd.str (k := j) (by rw [HLW.out.2.2.1]; exact hjt)
     obtain ⟨b2, o2, t, rfl, hb2, hs2, hc2⟩ := (HON.out.below HBJ.out).rd.str (k := j) (by rw [HL3.out]; exact hjt)
     obtain ⟨b3, o3, u, rfl, hb3, hs3, hc3⟩ := (HOD.out.below HBJ.out).str (k := j) (by rw [HD3.out]; exact hjt)
     obtain ⟨y1, hy1⟩ := beg_at HLW.out.2.1 hs1 hs2
     obtain ⟨y2, hy2⟩ := beg_at HLW.out.1 hs3 hs1
     have hz1 := HLW.out.2.2.2 s (List.mem_of_getElem? hs1)
     have hz2 := HPM.out.2 t (List.mem_of_getElem? hs2)
     have HB1 := Lib.hid (fun W => (begins_c s y1 t W hy1 (by omega)).mono (fun _ _ q => (⟨q.1, q.2.symm⟩ : _ = Ending.returned (.bool true) ∧ _ = W)))
     have HB2 := Lib.hid (fun W => (begins_c u y2 s W hy2 (by omega)).mono (fun _ _ q => (⟨q.1, q.2.symm⟩ : _ = Ending.returned (.bool true) ∧ _ = W)))
     have hxc := (HXbc.out.below HBJ.out).2.1
     have hxa := (HXba.out.below HBJ.out).2.1
     have hxd := (HXbd.out.below HBJ.out).2.1
     have hI : (j : Int) < 3 := by omega
     clear hs1 hs2 hs3 hy1 hy2 hz1 hz2
     go_wp2_with fail
     go_quiet (first | with_reducible exact Calls.quiet_of_same (HB1.out _) | with_reducible exact Calls.quiet_of_same (HB2.out _))
     generalize hw5 : wr.drewN _ = w5_
     have HB5 : Hid (Below w13.heap.size w13 w5_) := by rw [Hid, ← hw5]; exact below_then HBJ.out (below_drewN _ _) HBJ.out.size
     clear hw5 hxc hxa hxd hc1 hc2 hc3
     go_wp2
     go_roundw
     case rel => exact ⟨j + 1, by omega, by go_num, HB5.out⟩
     case measure => simp [intOf]; omega
    ·obtain rfl : 3 = j := by omega
     go_wp2
     go_ret
     exact ⟨rfl, below_then HB.out HBJ.out HB.out.size⟩
  ·skip
   obtain rfl : m = k := by omega
   have hlw0 : cutOkM d ws (m : Nat) 0 = true ∧ BegD d (cutAtM d ws (m : Nat) 0) ∧ BegD (cutAtM d ws (m : Nat) 0) L ∧ Sm (cutAtM d ws (m : Nat) 0) 2000 := HCA.out
   have hck := fun W (r1 : Rd W 0 W.heap.size A (strs d)) (r2 : Rd W 0 W.heap.size X (wris ws)) => implCutAt_c A c 0 W.heap.size 3 d X cx 0 W.heap.size m ws (m : Nat) 0 W r1 HD3.out (by omega) r2 HWM.out (by omega) hmc HXN.out HFT.out (by constructor <;> omega) (by constructor <;> omega)
   generalize cutAtM d ws (m : Nat) 0 = C at *
   obtain ⟨hl1, hl2, hl3, hl4⟩ := hlw0
   rw [hl1, hl4.1] at hck
   have HCK := Lib.hid hck
   have HLW := Lib.hid (And.intro hl2 (And.intro hl3 hl4))
   clear hl1 hl2 hl3 hl4 hck
   go_wp2_with fail
   refine calls_named (fun w5 hw => ?_)
   have hz5 : w4.heap.size + 0 ≤ w5.heap.size := by rw [hw]; first | omega | (simp [World.setCell]; done) | (simp [World.setCell]; omega)
   have hzz5 : w.heap.size ≤ w5.heap.size := by omega
   have hbn : Below w4.heap.size w4 w5 := by rw [hw]; exact (by ((repeat (first | ((with_reducible refine Below.alloc ?_ ?_ _); rotate_left 1; (focus (first | omega | (simp; done) | (simp; omega)))) | (with_reducible refine Below.drew ?_) | ((with_reducible refine Below.setCell ?_ ?_ _); rotate_left 1; (focus (first | omega | (simp; done) | (simp; omega)))))); exact Below.refl _ _))
   replace HB := Lib.hid (below_then HB.out hbn HB.out.size)
   replace HOD := Lib.hid (HOD.out.below hbn)
   replace HOX := Lib.hid (HOX.out.below hbn)
   replace HXbd := Lib.hid (HXbd.out.below hbn)
   clear hxbd hfbd hkbd
   have hxbd := HXbd.out.2.1
   have hfbd := HXbd.out.2.2
   have hkbd := HXbd.out.1
   clear hbn
   clear hw
   refine (HPA.out _ HOD.out.base HOX.out.base).mono ?_
   rintro e w6 ⟨An, cn, rfl, ho, hb⟩
   have hzw6 : w5.heap.size ≤ w6.heap.size := hb.size
   have hzzw6 : w.heap.size ≤ w6.heap.size := by omega
   replace HB := Lib.hid (below_then HB.out hb HB.out.size)
   replace HOD := Lib.hid (HOD.out.below hb)
   replace HOX := Lib.hid (HOX.out.below hb)
   replace HXbd := Lib.hid (HXbd.out.below hb)
   clear hxbd hfbd hkbd
   have hxbd := HXbd.out.2.1
   have hfbd := HXbd.out.2.2
   have hkbd := HXbd.out.1
   clear hb
   have HON : Hid (Own w6 (w5.heap.size) (w6.heap.size) (An) (strs L)) := Lib.hid ho
   clear ho
   go_wp2_with fail
   refine calls_named (fun w7 hw => ?_)
   have hz7 : w6.heap.size + 1 ≤ w7.heap.size := by rw [hw]; first | omega | (simp [World.setCell]; done) | (simp [World.setCell]; omega)
   have hzz7 : w.heap.size ≤ w7.heap.size := by omega
   have hbn : Below w6.heap.size w6 w7 := by rw [hw]; exact (by ((repeat (first | ((with_reducible refine Below.alloc ?_ ?_ _); rotate_left 1; (focus (first | omega | (simp; done) | (simp; omega)))) | (with_reducible refine Below.drew ?_) | ((with_reducible refine Below.setCell ?_ ?_ _); rotate_left 1; (focus (first | omega | (simp; done) | (simp; omega)))))); exact Below.refl _ _))
   replace HB := Lib.hid (below_then HB.out hbn HB.out.size)
   replace HOD := Lib.hid (HOD.out.below hbn)
   replace HOX := Lib.hid (HOX.out.below hbn)
   replace HON := Lib.hid (HON.out.below hbn)
   replace HXbd := Lib.hid (HXbd.out.below hbn)
   clear hxbd hfbd hkbd
   have hxbd := HXbd.out.2.1
   have hfbd := HXbd.out.2.2
   have hkbd := HXbd.out.1
   clear hbn
   have HXba : Hid (NewBox w7 (w6.heap.size) [.slice An 3 cn]) := by rw [Hid, hw]; exact ⟨by first | omega | (simp [World.setCell]; done) | (simp [World.setCell]; omega), fun o => by rcases o with _ | o <;> go_simp, fun o => by go_simp⟩
   have hxba := HXba.out.2.1
   have hfba := HXba.out.2.2
   have hkba := HXba.out.1
   clear hw
   refine (HCK.out _ HOD.out.base HOX.out.base).mono ?_
   rintro e w8 ⟨Ac, cc, rfl, hoc, hb⟩
   have hzw8 : w7.heap.size ≤ w8.heap.size := hb.size
   have hzzw8 : w.heap.size ≤ w8.heap.size := by omega
   replace HB := Lib.hid (below_then HB.out hb HB.out.size)
   replace HOD := Lib.hid (HOD.out.below hb)
   replace HOX := Lib.hid (HOX.out.below hb)
   replace HON := Lib.hid (HON.out.below hb)
   replace HXbd := Lib.hid (HXbd.out.below hb)
   clear hxbd hfbd hkbd
   have hxbd := HXbd.out.2.1
   have hfbd := HXbd.out.2.2
   have hkbd := HXbd.out.1
   replace HXba := Lib.hid (HXba.out.below hb)
   clear hxba hfba hkba
   have hxba := HXba.out.2.1
   have hfba := HXba.out.2.2
   have hkba := HXba.out.1
   clear hb
   have HOK : Hid (Own w8 (w7.heap.size) (w8.heap.size) (Ac) (strs C)) := Lib.hid hoc
   clear hoc
   go_wp2_with fail
   refine calls_named (fun w9 hw => ?_)
   have hz9 : w8.heap.size + 1 ≤ w9.heap.size := by rw [hw]; first | omega | (simp [World.setCell]; done) | (simp [World.setCell]; omega)
   have hzz9 : w.heap.size ≤ w9.heap.size := by omega
   have hbn : Below w8.heap.size w8 w9 := by rw [hw]; exact (by ((repeat (first | ((with_reducible refine Below.alloc ?_ ?_ _); rotate_left 1; (focus (first | omega | (simp; done) | (simp; omega)))) | (with_reducible refine Below.drew ?_) | ((with_reducible refine Below.setCell ?_ ?_ _); rotate_left 1; (focus (first | omega | (simp; done) | (simp; omega)))))); exact Below.refl _ _))
   replace HB := Lib.hid (below_then HB.out hbn HB.out.size)
   replace HOD := Lib.hid (HOD.out.below hbn)
   replace HOX := Lib.hid (HOX.out.below hbn)
   replace HON := Lib.hid (HON.out.below hbn)
   replace HOK := Lib.hid (HOK.out.below hbn)
   replace HXbd := Lib.hid (HXbd.out.below hbn)
   clear hxbd hfbd hkbd
   have hxbd := HXbd.out.2.1
   have hfbd := HXbd.out.2.2
   have hkbd := HXbd.out.1
   replace HXba := Lib.hid (HXba.out.below hbn)
   clear hxba hfba hkba
   have hxba := HXba.out.2.1
   have hfba := HXba.out.2.2
   have hkba := HXba.out.1
   clear hbn
   have HXbc : Hid (NewBox w9 (w8.heap.size) [.slice Ac 3 cc]) := by rw [Hid, hw]; exact ⟨by first | omega | (simp [World.setCell]; done) | (simp [World.setCell]; omega), fun o => by rcases o with _ | o <;> go_simp, fun o => by go_simp⟩
   have hxbc := HXbc.out.2.1
   have hfbc := HXbc.out.2.2
   have hkbc := HXbc.out.1
   clear hw
   refine (HCE.out _ HOD.out.base HOX.out.base).mono ?_
   rintro e w10 ⟨Ae, ce, rfl, hoe, hb⟩
   have hzw10 : w9.heap.size ≤ w10.heap.size := hb.size
   have hzzw10 : w.heap.size ≤ w10.heap.size := by omega
   replace HB := Lib.hid (below_then HB.out hb HB.out.size)
   replace HOD := Lib.hid (HOD.out.below hb)
   replace HOX := Lib.hid (HOX.out.below hb)
   replace HON := Lib.hid (HON.out.below hb)
   replace HOK := Lib.hid (HOK.out.below hb)
   replace HXbd := Lib.hid (HXbd.out.below hb)
   clear hxbd hfbd hkbd
   have hxbd := HXbd.out.2.1
   have hfbd := HXbd.out.2.2
   have hkbd := HXbd.out.1
   replace HXba := Lib.hid (HXba.out.below hb)
   clear hxba hfba hkba
   have hxba := HXba.out.2.1
   have hfba := HXba.out.2.2
   have hkba := HXba.out.1
   replace HXbc := Lib.hid (HXbc.out.below hb)
   clear hxbc hfbc hkbc
   have hxbc := HXbc.out.2.1
   have hfbc := HXbc.out.2.2
   have hkbc := HXbc.out.1
   clear hb
   have HOE : Hid (Own w10 (w9.heap.size) (w10.heap.size) (Ae) (strs L)) := Lib.hid hoe
   clear hoe HPA HCK HCE
   go_wp2_with fail
   refine calls_named (fun w11 hw => ?_)
   have hz11 : w10.heap.size + 1 ≤ w11.heap.size := by rw [hw]; first | omega | (simp [World.setCell]; done) | (simp [World.setCell]; omega)
   have hzz11 : w.heap.size ≤ w11.heap.size := by omega
   have hbn : Below w10.heap.size w10 w11 := by rw [hw]; exact (by ((repeat (first | ((with_reducible refine Below.alloc ?_ ?_ _); rotate_left 1; (focus (first | omega | (simp; done) | (simp; omega)))) | (with_reducible refine Below.drew ?_) | ((with_reducible refine Below.setCell ?_ ?_ _); rotate_left 1; (focus (first | omega | (simp; done) | (simp; omega)))))); exact Below.refl _ _))
   replace HB := Lib.hid (below_then HB.out hbn HB.out.size)
   replace HOD := Lib.hid (HOD.out.below hbn)
   replace HOX := Lib.hid (HOX.out.below hbn)
   replace HON := Lib.hid (HON.out.below hbn)
   replace HOK := Lib.hid (HOK.out.below hbn)
   replace HOE := Lib.hid (HOE.out.below hbn)
   replace HXbd := Lib.hid (HXbd.out.below hbn)
   clear hxbd hfbd hkbd
   have hxbd := HXbd.out.2.1
   have hfbd := HXbd.out.2.2
   have hkbd := HXbd.out.1
   replace HXba := Lib.hid (HXba.out.below hbn)
   clear hxba hfba hkba
   have hxba := HXba.out.2.1
   have hfba := HXba.out.2.2
   have hkba := HXba.out.1
   replace HXbc := Lib.hid (HXbc.out.below hbn)
   clear hxbc hfbc hkbc
   have hxbc := HXbc.out.2.1
   have hfbc := HXbc.out.2.2
   have hkbc := HXbc.out.1
   clear hbn
   have HXbe : Hid (NewBox w11 (w10.heap.size) [.slice Ae 3 ce]) := by rw [Hid, hw]; exact ⟨by first | omega | (simp [World.setCell]; done) | (simp [World.setCell]; omega), fun o => by rcases o with _ | o <;> go_simp, fun o => by go_simp⟩
   have hxbe := HXbe.out.2.1
   have hfbe := HXbe.out.2.2
   have hkbe := HXbe.out.1
   clear hw
   refine (sameDisk_c Ae An ce cn 0 (w11).heap.size 0 (w11).heap.size 3 L w11 HOE.out.rd.base HON.out.rd.base HL3.out (by omega)).mono ?_
   rintro e w12 ⟨rfl, hb⟩
   have hzw12 : w11.heap.size ≤ w12.heap.size := hb.size
   have hzzw12 : w.heap.size ≤ w12.heap.size := by omega
   replace HB := Lib.hid (below_then HB.out hb HB.out.size)
   replace HOD := Lib.hid (HOD.out.below hb)
   replace HOX := Lib.hid (HOX.out.below hb)
   replace HON := Lib.hid (HON.out.below hb)
   replace HOK := Lib.hid (HOK.out.below hb)
   replace HOE := Lib.hid (HOE.out.below hb)
   replace HXbd := Lib.hid (HXbd.out.below hb)
   clear hxbd hfbd hkbd
   have hxbd := HXbd.out.2.1
   have hfbd := HXbd.out.2.2
   have hkbd := HXbd.out.1
   replace HXba := Lib.hid (HXba.out.below hb)
   clear hxba hfba hkba
   have hxba := HXba.out.2.1
   have hfba := HXba.out.2.2
   have hkba := HXba.out.1
   replace HXbc := Lib.hid (HXbc.out.below hb)
   clear hxbc hfbc hkbc
   have hxbc := HXbc.out.2.1
   have hfbc := HXbc.out.2.2
   have hkbc := HXbc.out.1
   replace HXbe := Lib.hid (HXbe.out.below hb)
   clear hxbe hfbe hkbe
   have hxbe := HXbe.out.2.1
   have hfbe := HXbe.out.2.2
   have hkbe := HXbe.out.1
   clear hb
   clear HOE
   clear HOX
   clear hxbe hfbe hkbe HXbe
   go_wp2
   refine wp_named (fun w13 hw => ?_)
   have hz13 : w12.heap.size + 0 ≤ w13.heap.size := by rw [hw]; first | omega | (simp [World.setCell]; done) | (simp [World.setCell]; omega)
   have hzz13 : w.heap.size ≤ w13.heap.size := by omega
   have hbn : Below w12.heap.size w12 w13 := by rw [hw]; exact (by ((repeat (first | ((with_reducible refine Below.alloc ?_ ?_ _); rotate_left 1; (focus (first | omega | (simp; done) | (simp; omega)))) | (with_reducible refine Below.drew ?_) | ((with_reducible refine Below.setCell ?_ ?_ _); rotate_left 1; (focus (first | omega | (simp; done) | (simp; omega)))))); exact Below.refl _ _))
   replace HB := Lib.hid (below_then HB.out hbn HB.out.size)
   replace HOD := Lib.hid (HOD.out.below hbn)
   replace HON := Lib.hid (HON.out.below hbn)
   replace HOK := Lib.hid (HOK.out.below hbn)
   replace HXbd := Lib.hid (HXbd.out.below hbn)
   clear hxbd hfbd hkbd
   have hxbd := HXbd.out.2.1
   have hfbd := HXbd.out.2.2
   have hkbd := HXbd.out.1
   replace HXba := Lib.hid (HXba.out.below hbn)
   clear hxba hfba hkba
   have hxba := HXba.out.2.1
   have hfba := HXba.out.2.2
   have hkba := HXba.out.1
   replace HXbc := Lib.hid (HXbc.out.below hbn)
   clear hxbc hfbc hkbc
   have hxbc := HXbc.out.2.1
   have hfbc := HXbc.out.2.2
   have hkbc := HXbc.out.1
   clear hbn
   clear hw
   go_loopw [14] (fun i wr => ∃ j : Nat, j ≤ 3 ∧ i = .int .i64 j ∧ Below w13.heap.size w13 wr) (fun i _ => 3 - (intOf i).toNat)
   case atStart => exact ⟨0, Nat.zero_le _, rfl, Below.refl _ _⟩
   case round =>
    obtain ⟨j, hj, rfl, hbj⟩ := hrel
    have HBJ := Lib.hid hbj
    clear hbj
    by_cases hjt : j < 3
    ·obtain ⟨b1, o1, s, rfl, hb1, hs1, hc1⟩ := (HOK.out.below HBJ.out).rd.str (k := j) (by rw [HLW.out.2.2.1]; exact hjt)
     obtain ⟨b2, o2, t, rfl, hb2, hs2, hc2⟩ := (HON.out.below HBJ.out).rd.str (k := j) (by rw [HL3.out]; exact hjt)
     obtain ⟨b3, o3, u, rfl, hb3, hs3, hc3⟩ := (HOD.out.below HBJ.out).str (k := j) (by rw [HD3.out]; exact hjt)
     obtain ⟨y1, hy1⟩ := beg_at HLW.out.2.1 hs1 hs2
     obtain ⟨y2, hy2⟩ := beg_at HLW.out.1 hs3 hs1
     have hz1 := HLW.out.2.2.2 s (List.mem_of_getElem? hs1)
     have hz2 := HPM.out.2 t (List.mem_of_getElem? hs2)
     have HB1 := Lib.hid (fun W => (begins_c s y1 t W hy1 (by omega)).mono (fun _ _ q => (⟨q.1, q.2.symm⟩ : _ = Ending.returned (.bool true) ∧ _ = W)))
     have HB2 := Lib.hid (fun W => (begins_c u y2 s W hy2 (by omega)).mono (fun _ _ q => (⟨q.1, q.2.symm⟩ : _ = Ending.returned (.bool true) ∧ _ = W)))
     have hxc := (HXbc.out.below HBJ.out).2.1
     have hxa := (HXba.out.below HBJ.out).2.1
     have hxd := (HXbd.out.below HBJ.out).2.1
     have hI : (j : Int) < 3 := by omega
     clear hs1 hs2 hs3 hy1 hy2 hz1 hz2
     go_wp2_with fail
     go_quiet (first | with_reducible exact Calls.quiet_of_same (HB1.out _) | with_reducible exact Calls.quiet_of_same (HB2.out _))
     generalize hw5 : wr.drewN _ = w5_
     have HB5 : Hid (Below w13.heap.size w13 w5_) := by rw [Hid, ← hw5]; exact below_then HBJ.out (below_drewN _ _) HBJ.out.size
     clear hw5 hxc hxa hxd hc1 hc2 hc3
     go_wp2
     go_roundw
     case rel => exact ⟨j + 1, by omega, by go_num, HB5.out⟩
     case measure => simp [intOf]; omega
    ·obtain rfl : 3 = j := by omega
     go_wp2
     go_ret
     exact ⟨rfl, below_then HB.out HBJ.out HB.out.size⟩
end Go.Proofs.Ytoccjgcokffkbaa
