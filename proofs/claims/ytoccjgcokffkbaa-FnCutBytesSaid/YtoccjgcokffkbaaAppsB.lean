/- Writes that are put behind the files of a disk: one more write; cuts. The plain law. -/
import Derived.Test.YtoccjgcokffkbaaApps
import Derived.Test.YtoccjgcokffkbaaBegin
import Derived.BigQuiet
import Derived.Deep.QuietTactic
namespace Go.Proofs.Ytoccjgcokffkbaa
set_option linter.unusedVariables false
set_option linter.unusedSimpArgs false
open Go.RowKit

theorem apps_snoc : ∀ {ws : List Wri} {d : List ByteArray} {N : Nat} {x : Wri}, Sm d N → N + 8 * ws.length + 8 ≤ 299000 → Apps d ws → 0 ≤ x.file → x.file ≤ 2 → x.pos = ((putAllL d ws).getD x.file.toNat ByteArray.empty).size → x.text.size ≤ 8 → Apps d (ws ++ [x]) ∧ putAllL d (ws ++ [x]) = putM (putAllL d ws) x
 | [], d, N, x, hs, hN, _, h0, h2, hp, ht => by
   have k1 := (app_put hs (by omega) h0 h2 hp ht).1
   refine ⟨⟨h0, h2, hp, ht, trivial⟩, ?_⟩
   show putAllL d [x] = putM d x
   rw [putAllL, if_pos (fits_of k1), putAllL, putM, if_pos k1]
 | y :: r, d, N, x, hs, hN, ⟨g0, g2, gp, gt, ga⟩, h0, h2, hp, ht => by
   rw [List.length_cons] at hN
   obtain ⟨k1, k2, _⟩ := app_put hs (by omega) g0 g2 gp gt
   rw [putAllL, if_pos (fits_of k1)] at hp
   obtain ⟨j1, j2⟩ := apps_snoc k2 (by omega) ga h0 h2 hp ht
   refine ⟨⟨g0, g2, gp, gt, j1⟩, ?_⟩
   rw [List.cons_append, putAllL, if_pos (fits_of k1), j2, putAllL, if_pos (fits_of k1)]
theorem apps_text : ∀ {ws : List Wri} {d : List ByteArray}, Apps d ws → ∀ x ∈ ws, x.text.size ≤ 8
 | [], _, _, x, hx => by cases hx
 | y :: r, d, ⟨_, _, _, ht, ha⟩, x, hx => by
   rcases List.mem_cons.1 hx with rfl | h
   ·exact ht
   ·exact apps_text ha x h
theorem sm_ok {d : List ByteArray} {N : Nat} (hs : Sm d N) (hN : N ≤ 300000) : diskOk d = true := by
 rw [diskOk, Bool.and_eq_true, filesOk, List.all_eq_true]
 exact ⟨decide_eq_true hs.1, fun s hm => decide_eq_true (by have := hs.2 s hm; omega)⟩
theorem put_law {d : List ByteArray} {ws : List Wri} (hs : Sm d 8) (hm : ws.length ≤ 100) (ha : Apps d ws) : putAllM d ws = putAllL d ws ∧ putAllK d ws = (ws.length : Nat) ∧ Sm (putAllL d ws) 2000 := by
 have hok := sm_ok hs (by omega)
 obtain ⟨a1, a2, a3⟩ := apps_all hs (by omega) ha
 have hc : (diskOk d && decide (ws.length ≤ 600)) = true := by rw [hok, decide_eq_true (by omega)]; rfl
 rw [putAllM, putAllK, if_pos hc, if_pos hc, a1]
 exact ⟨rfl, rfl, a3.1, fun s h => by have := a3.2 s h; omega⟩
theorem cut_law {d : List ByteArray} {ws : List Wri} {k p : Nat} (hs : Sm d 8) (hm : ws.length ≤ 100) (ha : Apps d ws) (hk : k ≤ ws.length) (hp : ∀ x, ws[k]? = some x → p ≤ x.text.size) (hp0 : k = ws.length → p = 0) :
  cutOkM d ws k p = true ∧ BegD d (cutAtM d ws k p) ∧ BegD (cutAtM d ws k p) (putAllL d ws) ∧ Sm (cutAtM d ws k p) 2000 := by
 have hok := sm_ok hs (by omega)
 have hpre : cutPre d ws k p = true := by
  rw [cutPre, hok, decide_eq_true (show ws.length ≤ 600 by omega), Bool.true_and, Bool.true_and, Bool.and_eq_true]
  refine ⟨inR_true.2 ⟨by omega, by omega⟩, inR_true.2 ⟨by omega, ?_⟩⟩
  rw [roomOf, Int.toNat_natCast]
  rcases h : ws[k]? with _ | x
  ·have h1 : ws.length ≤ k := List.getElem?_eq_none_iff.1 h
   have h2 := hp0 (by omega)
   simp only; omega
  ·have h1 := hp x h
   simp only; omega
 have key : Apps d (cutDone ws k p) ∧ BegD (putAllL d (cutDone ws k p)) (putAllL d ws) ∧ (cutDone ws k p).length ≤ ws.length := by
  rw [cutDone, cutTail, Int.toNat_natCast]
  rcases Nat.eq_zero_or_pos p with h0 | h0
  ·rw [if_neg (by omega), List.append_nil]
   exact ⟨apps_take k ha, take_beg k hs (by omega) ha, by rw [List.length_take]; omega⟩
  ·rw [if_pos (by omega)]
   have hk2 : k < ws.length := by
    rcases Nat.lt_or_ge k ws.length with h | h
    ·exact h
    ·have := hp0 (by omega); omega
   obtain ⟨x, hx⟩ : ∃ x, ws[k]? = some x := ⟨_, List.getElem?_eq_getElem hk2⟩
   rw [hx]
   exact ⟨apps_cut ha hx, cut_beg hs (by omega) ha hx, by rw [List.length_append, List.length_take]; simp; omega⟩
 obtain ⟨k1, k2, k3⟩ := key
 obtain ⟨a1, a2, a3⟩ := apps_all hs (by omega) k1
 have hcut : cutOkM d ws k p = true := by rw [cutOkM, hpre, a1, decide_eq_true rfl]; rfl
 rw [cutAtM, hcut, if_pos rfl]
 exact ⟨rfl, a2, k2, a3.1, fun s h => by have := a3.2 s h; omega⟩
theorem cut_all {d : List ByteArray} {ws : List Wri} {m : Nat} (hs : Sm d 8) (hm : ws.length = m) (h1 : m ≤ 100) (ha : Apps d ws) : cutOkM d ws m 0 = true ∧ cutAtM d ws m 0 = putAllL d ws := by
 subst hm
 have h := (cut_law (k := ws.length) (p := 0) hs h1 ha (Nat.le_refl _) (fun x _ => Nat.zero_le _) (fun _ => rfl)).1
 refine ⟨h, ?_⟩
 rw [cutAtM, show cutOkM d ws (ws.length : Nat) 0 = true from h, if_pos rfl, cutDone, cutTail, if_neg (by decide), List.append_nil, Int.toNat_natCast, List.take_length]
/-- the same, as the files stand -/
theorem beg_at {a b : List ByteArray} (h : BegD a b) {i : Nat} {s t : ByteArray} (hs : a[i]? = some s) (ht : b[i]? = some t) : ∃ c, t = s ++ c := by
 obtain ⟨c, hc⟩ := h.2 i
 rw [List.getD_eq_getElem?_getD, List.getD_eq_getElem?_getD, hs, ht] at hc
 exact ⟨c, hc⟩
set_option maxRecDepth 100000 in
set_option maxHeartbeats 400000 in
theorem sameTexts_c (A1 A2 : Option Addr) (c1 c2 lo1 hi1 lo2 hi2 n : Nat) (l : List ByteArray) (w : World) (hr1 : Rd w lo1 hi1 A1 (strs l)) (hr2 : Rd w lo2 hi2 A2 (strs l)) (hn : l.length = n) (h1 : n ≤ 1048576) :
  Calls Try.prog 43 #[.slice A1 n c1, .slice A2 n c2] w fun e w' => e = .returned (.bool true) ∧ Below w.heap.size w w' := by
 have HN := Lib.hid hn
 have HR1 := Lib.hid hr1
 have HR2 := Lib.hid hr2
 clear hn hr1 hr2
 go_enter Try.func43, Try.ntmps43
 go_wp2
 go_loopw [5] (fun i wr => ∃ k : Nat, k ≤ n ∧ i = .int .i64 k ∧ Below w.heap.size w wr) (fun i _ => n - (intOf i).toNat)
 case atStart => exact ⟨0, Nat.zero_le _, rfl, Below.refl _ _⟩
 case round =>
  obtain ⟨k, hk, rfl, hb0⟩ := hrel
  have HB0 := Lib.hid hb0
  clear hb0
  by_cases hlt : k < n
  ·obtain ⟨b, off, s, rfl, hb, hks, hc⟩ := (HR1.out.below HB0.out).str (k := k) (by rw [HN.out]; exact hlt)
   obtain ⟨b2, off2, t, rfl, hb2, hks2, hc2⟩ := (HR2.out.below HB0.out).str (k := k) (by rw [HN.out]; exact hlt)
   obtain rfl : s = t := Option.some.inj (hks.symm.trans hks2)
   have hI : (k : Int) < n := by omega
   have hne : (s.toList != s.toList) = false := by simp
   clear hks hks2
   go_wp2_with fail
   go_quiet (fail)
   generalize hw5 : wr.drewN _ = w5
   have HB5 : Hid (Below w.heap.size w w5) := by rw [Hid, ← hw5]; exact below_then HB0.out (below_drewN (Below.refl _ _) _) HB0.out.size
   clear hw5 hc hc2
   go_wp2
   go_roundw
   case rel => exact ⟨k + 1, by omega, by go_num, HB5.out⟩
   case measure => simp [intOf]; omega
  ·obtain rfl : k = n := by omega
   go_wp2
   go_ret
   exact ⟨rfl, HB0.out⟩
set_option maxRecDepth 100000 in
set_option maxHeartbeats 400000 in
theorem sameDisk_c (A1 A2 : Option Addr) (c1 c2 lo1 hi1 lo2 hi2 n : Nat) (l : List ByteArray) (w : World) (hr1 : Rd w lo1 hi1 A1 (strs l)) (hr2 : Rd w lo2 hi2 A2 (strs l)) (hn : l.length = n) (h1 : n ≤ 1048576) :
  Calls Try.prog 12 #[.agg #[.slice A1 n c1], .agg #[.slice A2 n c2]] w fun e w' => e = .returned (.bool true) ∧ Below w.heap.size w w' := by
 have HC := Lib.hid (fun W (r1 : Rd W 0 W.heap.size A1 (strs l)) (r2 : Rd W 0 W.heap.size A2 (strs l)) => sameTexts_c A1 A2 c1 c2 0 W.heap.size 0 W.heap.size n l W r1 r2 hn h1)
 have HB : Hid (Below w.heap.size w w) := Below.refl _ _
 have HOA : Hid (Rd w (0) (w.heap.size) (A1) (strs l)) := Rd.base hr1
 have HOB : Hid (Rd w (0) (w.heap.size) (A2) (strs l)) := Rd.base hr2
 clear hr1 hr2 hn
 go_enter Try.func12, Try.ntmps12
 go_wp2_with fail
 refine calls_named (fun w1 hw => ?_)
 have hz1 : w.heap.size + 2 ≤ w1.heap.size := by rw [hw]; first | omega | (simp [World.setCell]; done) | (simp [World.setCell]; omega)
 have hzz1 : w.heap.size ≤ w1.heap.size := by omega
 have hbn : Below w.heap.size w w1 := by rw [hw]; exact (by ((repeat (first | ((with_reducible refine Below.alloc ?_ ?_ _); rotate_left 1; (focus (first | omega | (simp; done) | (simp; omega)))) | (with_reducible refine Below.drew ?_) | ((with_reducible refine Below.setCell ?_ ?_ _); rotate_left 1; (focus (first | omega | (simp; done) | (simp; omega)))))); exact Below.refl _ _))
 replace HB := Lib.hid (below_then HB.out hbn HB.out.size)
 replace HOA := Lib.hid (HOA.out.below hbn)
 replace HOB := Lib.hid (HOB.out.below hbn)
 clear hbn
 have HXa : Hid (NewBox w1 (w.heap.size) [.slice A1 n c1]) := by rw [Hid, hw]; exact ⟨by first | omega | (simp [World.setCell]; done) | (simp [World.setCell]; omega), fun o => by rcases o with _ | o <;> go_simp, fun o => by go_simp⟩
 have hxa := HXa.out.2.1
 have hfa := HXa.out.2.2
 have hka := HXa.out.1
 have HXb : Hid (NewBox w1 (w.heap.size + 1) [.slice A2 n c2]) := by rw [Hid, hw]; exact ⟨by first | omega | (simp [World.setCell]; done) | (simp [World.setCell]; omega), fun o => by rcases o with _ | o <;> go_simp, fun o => by go_simp⟩
 have hxb := HXb.out.2.1
 have hfb := HXb.out.2.2
 have hkb := HXb.out.1
 clear hw
 refine (HC.out _ HOA.out.base HOB.out.base).mono ?_
 rintro e w2 ⟨rfl, hb⟩
 have hzw2 : w1.heap.size ≤ w2.heap.size := hb.size
 have hzzw2 : w.heap.size ≤ w2.heap.size := by omega
 replace HB := Lib.hid (below_then HB.out hb HB.out.size)
 replace HOA := Lib.hid (HOA.out.below hb)
 replace HOB := Lib.hid (HOB.out.below hb)
 replace HXa := Lib.hid (HXa.out.below hb)
 clear hxa hfa hka
 have hxa := HXa.out.2.1
 have hfa := HXa.out.2.2
 have hka := HXa.out.1
 replace HXb := Lib.hid (HXb.out.below hb)
 clear hxb hfb hkb
 have hxb := HXb.out.2.1
 have hfb := HXb.out.2.2
 have hkb := HXb.out.1
 clear hb
 go_wp2
 go_ret
 exact ⟨rfl, HB.out⟩
end Go.Proofs.Ytoccjgcokffkbaa
