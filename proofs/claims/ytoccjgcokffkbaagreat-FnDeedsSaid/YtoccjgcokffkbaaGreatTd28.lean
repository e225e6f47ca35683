/- Part 28 of the proof of FnDeeds: lemmas and contracts. -/
import Derived.Test.YtoccjgcokffkbaaGreatTd26
import Derived.Test.YtoccjgcokffkbaaGreatTd27
import Derived.Deep.DeepCutAuto
namespace Go.Proofs.YtoccjgcokffkbaaGreat
set_option linter.unusedVariables false
set_option linter.unusedSimpArgs false
set_option maxHeartbeats 20000000
section
open Go.RowKit
theorem aI.keepT {w w' : World} {lo hi p n size : Nat} {T : TypeId} {v : Value} {xs : List Value} (h : aI w lo hi ((T, size), v, n) xs) (hk : dI p w w') (hT : T ≠ 9) (hp : hi ≤ p) : aI w' lo hi ((T, size), v, n) xs := by
 refine h.keepB fun k hk2 hl => hk.2 k (fun e => by have := h.2 k hk2; omega) ?_
 rcases h.1.2 with ⟨q, _⟩ | ⟨g, cap, cur, q, _, r, _⟩
 ·have q : v = _ := q
  rw [show ((T, size), v, n).2.1 = v from rfl, q] at hk2; cases hk2
 have q : v = _ := q
 rw [show ((T, size), v, n).2.1 = v from rfl, q] at hk2
 injection hk2 with e
 have e' : g = k := e
 subst e'
 exact ⟨_, _, r, hT⟩
theorem rng_tight {w : World} {lo p n c : Nat} {A : Option Addr} {xs : List Value} (h : w.ownsRow lo 9 1 (.slice A n c) n xs) (ht : Typed w p) (hl : lo ≤ p) :
  ∃ a b, lo ≤ a ∧ b ≤ w.heap.size ∧ (b ≤ p ∨ p < a) ∧ aI w a b ((9, 1), .slice A n c, n) xs := by
 have hp := ht.lt
 have hnr := ht.not_row h
 rcases h.2 with ⟨q, hn⟩ | ⟨g, cap, cur, q, h1, h2, h3⟩
 ·exact ⟨lo, lo, Nat.le_refl _, by omega, .inl hl, ⟨h.1, .inl ⟨q, hn⟩⟩, fun k hk => by rw [show (((9, 1) : TypeId × Nat), (Value.slice A n c), n).2.1 = .slice A n c from rfl, q] at hk; cases hk⟩
 have hg := (Array.getElem?_eq_some_iff.1 h2).1
 have hgp : g ≠ p := fun e => hnr (by rw [q, e]; rfl)
 refine ⟨g, g + 1, h1, by omega, by omega, ⟨h.1, .inr ⟨g, cap, cur, q, Nat.le_refl _, h2, h3⟩⟩, fun k hk => ?_⟩
 rw [show (((9, 1) : TypeId × Nat), (Value.slice A n c), n).2.1 = .slice A n c from rfl, q] at hk
 injection hk with e
 have e' : g = k := e
 omega
theorem box13 {w : World} {p : Nat} {c0 c1 c2 c3 c4 c5 c6 c7 c8 c9 c10 c11 c12 : Value} (ht : Typed w p) (h0 : w.cell? ⟨p, 0, none⟩ = some c0) (h1 : w.cell? ⟨p, 1, none⟩ = some c1) (h2 : w.cell? ⟨p, 2, none⟩ = some c2) (h3 : w.cell? ⟨p, 3, none⟩ = some c3) (h4 : w.cell? ⟨p, 4, none⟩ = some c4) (h5 : w.cell? ⟨p, 5, none⟩ = some c5)
  (h6 : w.cell? ⟨p, 6, none⟩ = some c6) (h7 : w.cell? ⟨p, 7, none⟩ = some c7) (h8 : w.cell? ⟨p, 8, none⟩ = some c8) (h9 : w.cell? ⟨p, 9, none⟩ = some c9) (h10 : w.cell? ⟨p, 10, none⟩ = some c10) (h11 : w.cell? ⟨p, 11, none⟩ = some c11) (h12 : w.cell? ⟨p, 12, none⟩ = some c12) (hx : ∀ j, 13 ≤ j → w.cell? ⟨p, j, none⟩ = none) :
  aa w p [c0, c1, c2, c3, c4, c5, c6, c7, c8, c9, c10, c11, c12] :=
 ⟨ht.lt, fun o => by
   rcases o with _ | _ | _ | _ | _ | _ | _ | _ | _ | _ | _ | _ | _ | o
   ·exact h0
   ·exact h1
   ·exact h2
   ·exact h3
   ·exact h4
   ·exact h5
   ·exact h6
   ·exact h7
   ·exact h8
   ·exact h9
   ·exact h10
   ·exact h11
   ·exact h12
   rw [hx _ (by omega)]; rfl, ht.frozen⟩
structure SmNat (width : Int) (es : List Ent) (rs : List Rcp) (hs : List Hd) (sz tk : Nat) (x : Hd) : Prop where
 g1 : ax width sz (pk1 width es hs) (aF width (es.drop sz)) (es.length - sz) = pk1 width es (hs ++ [x])
 g2 : ax width tk (pk2 width rs hs) (aM width (rs.drop tk)) (rs.length - tk) = pk2 width rs (hs ++ [x])
 r1 : aU width (pk1 width es (hs ++ [x])) = x.root
 r2 : aU width (pk2 width rs (hs ++ [x])) = x.troot
 nm : x.num = (ae hs).num + 1
 z1 : x.size = (es.length : Nat)
 z2 : x.taken = (rs.length : Nat)
 p1 : (pk1 width es hs).length = aO sz
 p2 : (pk2 width rs hs).length = aO tk
 a1 : bE width (pk1 width es hs) = true
 a2 : bE width (pk2 width rs hs) = true
 q1 : (pk1 width es (hs ++ [x])).length = aO es.length
 q2 : (pk2 width rs (hs ++ [x])).length = aO rs.length
theorem aB.smNat {width : Int} {es : List Ent} {rs : List Rcp} {hs : List Hd} (h : aB width es rs hs) (hl : hs.length < 400) {sz tk : Nat} (hsz : (ae hs).size = (sz : Int)) (htk : (ae hs).taken = (tk : Int)) : SmNat width es rs hs sz tk (eH width es rs hs) := by
 obtain ⟨s1, s2, s3, s4⟩ := h.sm hl
 obtain ⟨p1, p2⟩ := pk_next h
 obtain ⟨b1, b2, b3, b4, b5, b6, b7⟩ := h.last
 have l1 := logOk_len h.log
 have l2 := rcpsOk_len h.bf
 have e0 : ([] : List ByteArray).length = aO 0 := by decide
 rw [nextHd, s2, s3, ← p1, ← p2] at s4
 rw [smP, hsz, Int.toNat_natCast, bH, List.length_drop, ← p1] at s2
 rw [smP, htk, Int.toNat_natCast, bO, List.length_drop, ← p2] at s3
 have k1 : pk1 width es hs = ax width 0 [] (aF width es) sz := by rw [pk1, hsz, Int.toNat_natCast]
 have k2 : pk2 width rs hs = ax width 0 [] (aM width rs) tk := by rw [pk2, htk, Int.toNat_natCast]
 refine ⟨s2, s3, congrArg Hd.root s4, congrArg Hd.troot s4, (congrArg Hd.num s4).symm, rfl, rfl, ?_, ?_, ?_, ?_, ?_, ?_⟩
 ·rw [k1, bn e0 (by omega), Nat.zero_add]
 ·rw [k2, bn e0 (by omega), Nat.zero_add]
 ·rw [k1]; exact df h.wd e0 rfl (leavesM_are h.wd h.log) (by omega) (by rw [bH]; omega)
 ·rw [k2]; exact df h.wd e0 rfl (takenM_are h.wd h.bf) (by omega) (by rw [bO]; omega)
 ·rw [p1, bn e0 (by omega), Nat.zero_add]
 rw [p2, bn e0 (by omega), Nat.zero_add]
theorem sealMore_c {width : Int} {es : List Ent} {rs : List Rcp} {hs : List Hd} {sz tk : Nat} {x : Hd} (sm : SmNat width es rs hs sz tk x) (hok : aB width es rs hs) (hsz : sz ≤ es.length) (htk : tk ≤ rs.length) (p lo xl1 xh1 xl2 xh2 c1 c2 g1 g2 : Nat) (A1 A2 X1 X2 : Option Addr) (v0 v1 v2 v3 u1 u2 u3 u4 : Value) (w : World) (hlp : lo ≤ p)
  (hX1 : Rd w xl1 xh1 X1 (strs (aF width (es.drop sz)))) (hX2 : Rd w xl2 xh2 X2 (strs (aM width (rs.drop tk)))) (hx1 : xh1 ≤ w.heap.size) (hx2 : xh2 ≤ w.heap.size) (hy1 : p < xl1) (hy2 : p < xl2) (ht : Typed w p)
  (hbx : aa w p [v0, v1, v2, v3, .int .i64 sz, .slice A1 (pk1 width es hs).length c1, .int .i64 tk, .slice A2 (pk2 width rs hs).length c2, .int .i64 (ae hs).num, u1, u2, u3, u4])
  (r1 : aI w lo p ((9, 1), .slice A1 (pk1 width es hs).length c1, (pk1 width es hs).length) (strs (pk1 width es hs))) (r2 : aI w lo p ((9, 1), .slice A2 (pk2 width rs hs).length c2, (pk2 width rs hs).length) (strs (pk2 width rs hs))) (hap : Apart (.slice A1 (pk1 width es hs).length c1) (.slice A2 (pk2 width rs hs).length c2)) :
  Calls Tryz.prog 142 #[.pointer (some ⟨p, 4, none⟩), .int .i64 width, .slice X1 (es.length - sz) g1, .slice X2 (rs.length - tk) g2] w fun e w' => ∃ (v : Int) (A3 : Option Addr) (c3 : Nat) (A4 : Option Addr) (c4 : Nat), e = .returned (.int .i64 v) ∧
   (aa w' p [v0, v1, v2, v3, .int .i64 es.length, .slice A3 (pk1 width es (hs ++ [x])).length c3, .int .i64 rs.length, .slice A4 (pk2 width rs (hs ++ [x])).length c4, .int .i64 x.num, .int .i64 es.length, .string x.root, .int .i64 rs.length, .string x.troot] ∧ Typed w' p ∧
    w'.ownsRow lo 9 1 (.slice A3 (pk1 width es (hs ++ [x])).length c3) (pk1 width es (hs ++ [x])).length (strs (pk1 width es (hs ++ [x]))) ∧ w'.ownsRow lo 9 1 (.slice A4 (pk2 width rs (hs ++ [x])).length c4) (pk2 width rs (hs ++ [x])).length (strs (pk2 width rs (hs ++ [x]))) ∧ dI p w w') ∧ Only lo w.heap.size w w' := by
 have hpw := hbx.1
 have l1 := logOk_len hok.log
 have l2 := rcpsOk_len hok.bf
 have hnum := dQ hok.last.2.2.2.2.2.2
 have d1 := r1.at_
 have d2 := r2.at_
 dsimp only at d1 d2
 have k1 : (aF width (es.drop sz)).length = es.length - sz := by rw [bH, List.length_drop]
 have k2 : (aM width (rs.drop tk)).length = rs.length - tk := by rw [bO, List.length_drop]
 have a1 : bE width (aF width (es.drop sz)) = true := by rw [leavesM_drop]; exact areH_sub (leavesM_are hok.wd hok.log) (fun s hs => List.mem_of_mem_drop hs)
 have a2 : bE width (aM width (rs.drop tk)) = true := by rw [takenM_drop]; exact areH_sub (takenM_are hok.wd hok.bf) (fun s hs => List.mem_of_mem_drop hs)
 have e1 : sz + (es.length - sz) = es.length := by omega
 have e2 : tk + (rs.length - tk) = rs.length := by omega
 have h1 : cB w lo p 4 sz (.slice A1 (aO sz) c1) (aO sz) (pk1 width es hs) := by
  rw [← sm.p1]; exact ⟨ht, hbx.cell (o := 4) rfl, hbx.cell (o := 5) rfl, r1.1⟩
 have h2 : cB w lo p 6 tk (.slice A2 (aO tk) c2) (aO tk) (pk2 width rs hs) := by
  rw [← sm.p2]; exact ⟨ht, hbx.cell (o := 6) rfl, hbx.cell (o := 7) rfl, r2.1⟩
 rw [sm.p1] at d1
 rw [sm.p2] at d2
 rw [sm.p1, sm.p2] at hap
 have HM := moreX_c width sz tk p lo xl1 xh1 xl2 xh2 c1 c2 A1 A2 (pk1 width es hs) (pk2 width rs hs) (ae hs) X1 X2 g1 g2 (es.length - sz) (rs.length - tk) (aF width (es.drop sz)) (aM width (rs.drop tk)) w hok.wd sm.p1 sm.a1 sm.p2 sm.a2 k1 a1 k2 a2 (by omega) (by omega) (by omega) hlp hX1 hX2 hx1 hx2 (.inl hy1) (.inl hy2)
  (fun k hk => .inl (by have := d1 k hk; omega)) (fun k hk => .inl (by rcases hk with hk | hk; have := d1 k hk; omega; have := d2 k hk; omega)) h1 h2 hap ⟨hnum.1, hnum.2.1⟩ (hbx.cell (o := 8) rfl)
  (fun j q1 q2 => by
    rcases (show j = 8 ∨ j = 9 ∨ j = 10 ∨ j = 11 ∨ j = 12 by omega) with rfl | rfl | rfl | rfl | rfl
    ·exact ⟨_, hbx.cell (o := 8) rfl⟩
    ·exact ⟨_, hbx.cell (o := 9) rfl⟩
    ·exact ⟨_, hbx.cell (o := 10) rfl⟩
    ·exact ⟨_, hbx.cell (o := 11) rfl⟩
    exact ⟨_, hbx.cell (o := 12) rfl⟩)
 rw [e1, e2, sm.g1, sm.g2, sm.r1, sm.r2, ← sm.q1, ← sm.q2, ← sm.nm] at HM
 refine HM.mono ?_
 rintro e w' ⟨A3, c3, A4, c4, he, g1, g2, _, y8, y9, y10, y11, y12, ho, hkt, hkc⟩
 have hk := fun j (hj : j < 4 ∨ 13 ≤ j) => (hkc j hj).trans (hbx.2.1 j)
 exact ⟨_, A3, c3, A4, c4, he, ⟨box13 g1.typed (hk 0 (by omega)) (hk 1 (by omega)) (hk 2 (by omega)) (hk 3 (by omega)) g1.c0 g1.c1 g2.c0 g2.c1 y8 y9 y10 y11 y12 (fun j hj => (hk j (.inr hj)).trans (List.getElem?_eq_none_iff.2 (by show 13 ≤ j; exact hj))), g1.typed, g1.row, g2.row, hkt⟩, ho⟩
def TypK (w : World) (_ _ : Nat) (p : Nat) (_ : List Value) : Prop := Typed w p
theorem TypK.below {w w' : World} {lo hi p : Nat} {xs : List Value} (h : TypK w lo hi p xs) (hb : Below w.heap.size w w') : TypK w' lo hi p xs := Typed.below h hb
def SealR (w' : World) (p lo : Nat) (width : Int) (E R : Option Addr) (ne nr nh ce cr : Nat) (es : List Ent) (rs : List Rcp) (hs : List Hd) (x : Hd) (code : Int) (L : Option Addr) (q : Nat) : Prop :=
 (¬ code = 0 ∧ L = none ∧ q = 0) ∨ (code = 0 ∧ q = 1 ∧ nh < 400 ∧ ∃ (g cap : Nat) (A3 : Option Addr) (c3 : Nat) (A4 : Option Addr) (c4 : Nat),
   aa w' p [.int .i64 width, .slice E ne ce, .slice R nr cr, .slice (some ⟨g, 0, none⟩) (nh + 1) cap, .int .i64 x.size, .slice A3 (pk1 width es (hs ++ [x])).length c3, .int .i64 x.taken, .slice A4 (pk2 width rs (hs ++ [x])).length c4, .int .i64 x.num, .int .i64 x.size, .string x.root, .int .i64 x.taken, .string x.troot] ∧
   aG w' lo w'.heap.size ⟨E, R, some ⟨g, 0, none⟩, A3, A4, ce, cr, cap, c3, c4⟩ ⟨width, es, rs, hs ++ [x]⟩ ∧ Rd w' lo w'.heap.size L (wris [dZ ⟨width, es, rs, hs⟩ 1 (aL width x)]))
set_option maxRecDepth 100000 in
theorem seal_c (width : Int) (E R H A1 A2 : Option Addr) (ne nr nh ce cr ch c1 c2 m1 m2 : Nat) (es : List Ent) (rs : List Rcp) (hs : List Hd) (l1 l2 : List ByteArray) (h : Hd) (p lo : Nat) (w : World) (hbx : aa w p [.int .i64 width, .slice E ne ce, .slice R nr cr, .slice H nh ch, .int .i64 h.size, .slice A1 m1 c1, .int .i64 h.taken, .slice A2 m2 c2, .int .i64 h.num, .int .i64 h.size, .string h.root, .int .i64 h.taken, .string h.troot]) (hty : Typed w p) (hcp : bW w lo p ⟨E, R, H, A1, A2, ce, cr, ch, c1, c2⟩ ⟨es, rs, hs, l1, l2⟩) (hap : Apart (.slice A1 m1 c1) (.slice A2 m2 c2)) (hok : aB width es rs hs) (hne : es.length = ne) (hnr : rs.length = nr) (hnh : hs.length = nh) (hl1 : pk1 width es hs = l1) (hl2 : pk2 width rs hs = l2) (hm1 : l1.length = m1) (hm2 : l2.length = m2) (hh : ae hs = h) (hlp : lo ≤ p) (hce : ne ≤ ce) (hcr : nr ≤ cr) (hch : nh ≤ ch) :
  Calls Tryz.prog 85 #[.pointer (some ⟨p, 0, none⟩)] w fun e w' => ∃ (code : Int) (L : Option Addr) (q : Nat), e = .returned (.tuple #[.slice L q q, .int .i64 code]) ∧ SealR w' p lo width E R ne nr nh ce cr es rs hs (eH width es rs hs) code L q ∧ Only lo w.heap.size w w' := by
 obtain ⟨f1, f2, f3, g1, g2, g3, g4, f4, g5, g6, g7⟩ := bN hok
 have hlast := hok.last
 rw [hh] at hlast
 rw [hne] at g1 hlast
 rw [hnr] at g2 hlast
 rw [hnh] at g3 g4
 rw [hl1, hm1] at g6
 rw [hl2, hm2] at g7
 have hpos : 1 ≤ nh := by rw [← hnh]; exact hok.pos
 obtain ⟨sz, hsz⟩ : ∃ n : Nat, h.size = n := ⟨h.size.toNat, by omega⟩
 obtain ⟨tk, htk⟩ : ∃ n : Nat, h.taken = n := ⟨h.taken.toNat, by omega⟩
 have hsm := fun (hl : nh < 400) => hok.smNat (by omega) (show (ae hs).size = (sz : Int) by rw [hh]; exact hsz) (show (ae hs).taken = (tk : Int) by rw [hh]; exact htk)
 have hnx := fun (hl : nh < 400) => hok.seal_ (by omega)
 have hxo := fun (hl : nh < 400) => hok.nextOk (by omega)
 obtain ⟨r0, r0n⟩ := file_recs hok 1
 have HWT := fun W (bx : aa W p [.int .i64 width, .slice E ne ce, .slice R nr cr, .slice H nh ch, .int .i64 h.size, .slice A1 m1 c1, .int .i64 h.taken, .slice A2 m2 c2, .int .i64 h.num, .int .i64 h.size, .string h.root, .int .i64 h.taken, .string h.troot]) (q : Rd W 0 W.heap.size H (hds hs)) => waiting_c width h.size h.taken p E R H A1 A2 ne nr nh ce cr ch c1 c2 0 W.heap.size m1 m2 hs h W bx q hnh (by omega) (by omega) (by omega) (by omega) (by rw [hh]; omega) (by rw [hh]; omega)
 rw [hh] at HWT
 obtain ⟨y1, dy1⟩ : ∃ z : Int, (ne : Int) - h.size = z := ⟨_, rfl⟩
 obtain ⟨y2, dy2⟩ : ∃ z : Int, (nr : Int) - h.taken = z := ⟨_, rfl⟩
 rw [dy1, dy2] at HWT
 have HLA := fun W (bx : aa W p [.int .i64 width, .slice E ne ce, .slice R nr cr, .slice H nh ch, .int .i64 h.size, .slice A1 m1 c1, .int .i64 h.taken, .slice A2 m2 c2, .int .i64 h.num, .int .i64 h.size, .string h.root, .int .i64 h.taken, .string h.troot]) (q : Rd W 0 W.heap.size H (hds hs)) => last_c p nh ch 0 W.heap.size H hs W bx.1 (bx.2.1 3) q hnh hpos (by omega)
 rw [hh] at HLA
 have HHS := lH (fun W (q : Rd W 0 W.heap.size E (aR es)) => (hashesOf_c width (cutX 5 E sz ce) (ce - sz) 0 W.heap.size (ne - sz) (es.drop sz) W (sufE_rd q sz ce (by omega)) (by rw [List.length_drop, hne]) (by omega) (fun y hy => f1 y (List.mem_of_mem_drop hy)) : Calls _ _ _ W fun e w' => ∃ A' c', e = .returned (.slice A' (ne - sz) c') ∧ w'.ownsRow W.heap.size 9 1 (.slice A' (ne - sz) c') (ne - sz) (strs (aF width (es.drop sz))) ∧ Below W.heap.size W w'))
 have HHT := lH (fun W (q : Rd W 0 W.heap.size R (bf rs)) => (receiptHashes_c width (cutX 3 R tk cr) (cr - tk) 0 W.heap.size (nr - tk) (rs.drop tk) W (sufR_rd q tk cr (by omega)) (by rw [List.length_drop, hnr]) (by omega) (fun y hy => f2 y (List.mem_of_mem_drop hy)) : Calls _ _ _ W fun e w' => ∃ A' c', e = .returned (.slice A' (nr - tk) c') ∧ w'.ownsRow W.heap.size 9 1 (.slice A' (nr - tk) c') (nr - tk) (strs (aM width (rs.drop tk))) ∧ Below W.heap.size W w'))
 have HMO := fun (x : Hd) (sm : SmNat width es rs hs sz tk x) xl1 xh1 xl2 xh2 d1 d2 g1 g2 A1 A2 X1 X2 v0 v1 v2 v3 u1 u2 u3 u4 W hX1 hX2 hx1 hx2 hy1 hy2 ht hbx r1 r2 ap => sealMore_c sm hok (by omega) (by omega) p lo xl1 xh1 xl2 xh2 d1 d2 g1 g2 A1 A2 X1 X2 v0 v1 v2 v3 u1 u2 u3 u4 W hlp hX1 hX2 hx1 hx2 hy1 hy2 ht hbx r1 r2 ap
 rw [hl1, hm1, hl2, hm2, hh, hne, hnr, ← hsz, ← htk] at HMO
 have HWR := fun W (z1 z2 : Int) X1 X2 d1 d2 n1 n2 (x : Hd) (bx : aa W p [.int .i64 width, .slice E ne ce, .slice R nr cr, .slice H nh ch, .int .i64 z1, .slice X1 n1 d1, .int .i64 z2, .slice X2 n2 d2, .int .i64 x.num, .int .i64 x.size, .string x.root, .int .i64 x.taken, .string x.troot]) (q0 : Rd W 0 W.heap.size E (aR es)) (q1 : Rd W 0 W.heap.size R (bf rs)) (q2 : Rd W 0 W.heap.size H (hds hs)) tx htx =>
  writeBehind_c width z1 z2 p 1 E R H X1 X2 ne nr nh ce cr ch d1 d2 0 W.heap.size 0 W.heap.size 0 W.heap.size n1 n2 es rs hs x tx W bx q0 q1 q2 hne hnr hnh (by omega) (by omega) (by omega) hpos hch f1 f2 (fun x hx => by have h1 := f3 x hx; have h2 : x.bulk ≤ dW Hd.bulk hs := sumBy_mem Hd.bulk hx; omega) (by omega) r0 r0n htx
 obtain ⟨x, hx⟩ : ∃ x, eH width es rs hs = x := ⟨_, rfl⟩
 rw [hx] at hsm hnx hxo ⊢
 have HXF := lH (fun (hl : nh < 400) => (bN (hnx hl)).2.2.2.2.2.2.2.2.1)
 have HTX := lH (fun (hl : nh < 400) W => implHeadText_c width x W (by have h9 := (bN (hnx hl)).2.2.2.2.2.2.2.2.1; rw [dN] at h9; omega))
 have hts := gQ width x
 have HSM := lH hsm
 have HNX := lH hnx
 have HOK := lH hok
 have HNE := lH hne
 have HNR := lH hnr
 have HNH := lH hnh
 have HL1 := lH hl1
 have HL2 := lH hl2
 have HM1 := lH hm1
 have HM2 := lH hm2
 have HAP := lH hap
 have HDW : Hid (dZ ⟨width, es, rs, hs⟩ 1 (aL width x) = ⟨((1 : Nat) : Int), (dB (bB width es rs hs 1)).size, bJ (aL width x)⟩) := lH rfl
 have HTR : Hid (∀ w' code L q, SealR w' p lo width E R ne nr nh ce cr es rs hs x code L q ↔ (¬ code = 0 ∧ L = none ∧ q = 0) ∨ (code = 0 ∧ q = 1 ∧ nh < 400 ∧ ∃ (g cap : Nat) (A3 : Option Addr) (c3 : Nat) (A4 : Option Addr) (c4 : Nat),
  aa w' p [.int .i64 width, .slice E ne ce, .slice R nr cr, .slice (some ⟨g, 0, none⟩) (nh + 1) cap, .int .i64 x.size, .slice A3 (pk1 width es (hs ++ [x])).length c3, .int .i64 x.taken, .slice A4 (pk2 width rs (hs ++ [x])).length c4, .int .i64 x.num, .int .i64 x.size, .string x.root, .int .i64 x.taken, .string x.troot] ∧
  aG w' lo w'.heap.size ⟨E, R, some ⟨g, 0, none⟩, A3, A4, ce, cr, cap, c3, c4⟩ ⟨width, es, rs, hs ++ [x]⟩ ∧ Rd w' lo w'.heap.size L (wris [dZ ⟨width, es, rs, hs⟩ 1 (aL width x)]))) := lH (fun _ _ _ _ => Iff.rfl)
 generalize dZ ⟨width, es, rs, hs⟩ 1 (aL width x) = dw at *
 generalize (dB (bB width es rs hs 1)).size = fsz at *
 generalize aL width x = tx at *
 generalize bu width x = hok2 at *
 replace HWT := lH HWT
 replace HLA := lH HLA
 replace HMO := lH HMO
 replace HWR := lH HWR
 have hs1 := fun W => sufXE E ne ce sz (by omega) hce W
 have hs2 := fun W => sufXR R nr cr tk (by omega) hcr W
 rw [← hsz] at hs1
 rw [← htk] at hs2
 have HS1 := lH hs1
 have HS2 := lH hs2
 have HSZ := lH hsz
 have HTKN := lH htk
 have hszn : sz ≤ ne := by omega
 have htkn : tk ≤ nr := by omega
 clear hsz htk dy1 dy2 hlast
 clear f1 f2 f3 f4 g4 hne hnr hnh hl1 hl2 hm1 hm2 hh hok r0 r0n hsm hnx hxo hap hx hs1 hs2
 have hpw : p < w.heap.size := hbx.1
 obtain ⟨i0, ii0, iz0, iz1, iz2⟩ := info_parts info_Head
 have HB : Hid (Only (lo) (w.heap.size) w w) := Only.refl _ _ _
 replace HB : Hid (Only (lo) (w.heap.size) w w) := (Only.refl _ _ _)
 have HXb : Hid (aa w (p) [.int .i64 width, .slice E ne ce, .slice R nr cr, .slice H nh ch, .int .i64 h.size, .slice A1 m1 c1, .int .i64 h.taken, .slice A2 m2 c2, .int .i64 h.num, .int .i64 h.size, .string h.root, .int .i64 h.taken, .string h.troot]) := hbx
 obtain ⟨hkb, hxb, hfb⟩ := HXb.out
 have HOC : Hid (bW w (lo) (p) (⟨E, R, H, A1, A2, ce, cr, ch, c1, c2⟩) (⟨es, rs, hs, l1, l2⟩)) := lH hcp
 have HOY : Hid (TypK w (0) (0) (p) (([] : List Value))) := lH hty
 clear hbx hcp hty
 go_enter Tryz.func85, Tryz.ntmps85
 go_wp2_with fail
 refine af (fun w1 hw => ?_)
 have hz1 : w.heap.size + 0 ≤ w1.heap.size := zA
 have hbn : Below w.heap.size w w1 := zB
 replace HB := lH (HB.out.trans (Only.of_below hbn))
 replace HOC := lH (HOC.out.below hbn)
 replace HOY := lH (HOY.out.below hbn)
 replace HXb := nB HXb hbn
 clear hxb hfb hkb
 obtain ⟨hkb, hxb, hfb⟩ := HXb.out
 clear hbn
 clear hw
 refine (HWT.out _ HXb.out (HOC.out.h.rd (Nat.le_of_lt hkb)).base).mono ?_
 rintro e w2 ⟨rfl, hb⟩
 have hzw2 : w1.heap.size ≤ w2.heap.size := hb.size
 replace HB := lH (HB.out.trans (Only.of_below hb))
 replace HOC := lH (HOC.out.below hb)
 replace HOY := lH (HOY.out.below hb)
 replace HXb := nB HXb hb
 clear hxb hfb hkb
 obtain ⟨hkb, hxb, hfb⟩ := HXb.out
 clear hb
 clear HWT
 by_cases hno : y1 = 0 ∧ y2 = 0
 ·obtain ⟨rfl, rfl⟩ := hno
  go_wp2
  refine ai (fun w3 hw => ?_)
  have hz3 : w2.heap.size + 0 ≤ w3.heap.size := zA
  have hbn : Below w2.heap.size w2 w3 := zB
  replace HB := lH (HB.out.trans (Only.of_below hbn))
  replace HOC := lH (HOC.out.below hbn); replace HOY := lH (HOY.out.below hbn); replace HXb := nB HXb hbn; clear hxb hfb hkb; obtain ⟨hkb, hxb, hfb⟩ := HXb.out; clear hbn; clear hw
  refine bodyPost_ret (v := .tuple #[.slice none 0 0, .int .i64 2]) (by simp [results, Tryz.results85, go_sem]) rfl ?_
  exact ⟨2, none, 0, rfl, (HTR.out _ _ _ _).2 (.inl ⟨by decide, rfl, rfl⟩), HB.out⟩
 go_upto_region 2 with fail
 refine aD (fun w3 hw => ?_)
 have hz3 : w2.heap.size + 0 ≤ w3.heap.size := zA
 have hbn : Below w2.heap.size w2 w3 := zB
 replace HB := lH (HB.out.trans (Only.of_below hbn))
 replace HOC := lH (HOC.out.below hbn)
 replace HOY := lH (HOY.out.below hbn)
 replace HXb := nB HXb hbn
 clear hxb hfb hkb
 obtain ⟨hkb, hxb, hfb⟩ := HXb.out
 clear hbn
 clear hw
 go_cut [22] (fun v wx => v = .bool false ∧ w3 = wx)
 case first =>
  by_cases h1 : y1 = 0
  ·have hd2 : (y2 == 0) = false := beq_eq_false_iff_ne.2 (fun e => hno ⟨h1, e⟩)
   clear hno; subst h1
   go_wp2_with fail
   go_meet
   exact ⟨rfl, rfl⟩
  have hd1 : (y1 == 0) = false := beq_eq_false_iff_ne.2 h1
  clear hno h1
  go_wp2_with fail
  go_meet
  exact ⟨rfl, rfl⟩
 case rest =>
  obtain ⟨rfl, hwc⟩ := hcut; subst hwc; clear hno
  by_cases h4 : 400 ≤ nh
  ·have hd1 : (400 : Int) ≤ (nh : Int) := by omega
   clear h4; go_wp2
   refine ai (fun w4 hw => ?_)
   have hz4 : w3.heap.size + 0 ≤ w4.heap.size := zA
   have hbn : Below w3.heap.size w3 w4 := zB
   replace HB := lH (HB.out.trans (Only.of_below hbn))
   replace HOC := lH (HOC.out.below hbn); replace HOY := lH (HOY.out.below hbn); replace HXb := nB HXb hbn; clear hxb hfb hkb; obtain ⟨hkb, hxb, hfb⟩ := HXb.out; clear hbn; clear hw
   refine bodyPost_ret (v := .tuple #[.slice none 0 0, .int .i64 3]) (by simp [results, Tryz.results85, go_sem]) rfl ?_
   exact ⟨3, none, 0, rfl, (HTR.out _ _ _ _).2 (.inl ⟨by decide, rfl, rfl⟩), HB.out⟩
  have hd1 : ¬ (400 : Int) ≤ (nh : Int) := by omega
  have h4l : nh < 400 := by omega
  clear h4
  go_wp2_with fail
  refine af (fun w4 hw => ?_)
  have hz4 : w3.heap.size + 0 ≤ w4.heap.size := zA
  have hbn : Below w3.heap.size w3 w4 := zB
  replace HB := lH (HB.out.trans (Only.of_below hbn))
  replace HOC := lH (HOC.out.below hbn); replace HOY := lH (HOY.out.below hbn); replace HXb := nB HXb hbn; clear hxb hfb hkb; obtain ⟨hkb, hxb, hfb⟩ := HXb.out; clear hbn; clear hw
  refine (HLA.out _ HXb.out (HOC.out.h.rd (Nat.le_of_lt hkb)).base).mono ?_
  rintro e w5 ⟨rfl, hb⟩
  have hzw5 : w4.heap.size ≤ w5.heap.size := hb.size
  replace HB := lH (HB.out.trans (Only.of_below hb))
  replace HOC := lH (HOC.out.below hb); replace HOY := lH (HOY.out.below hb); replace HXb := nB HXb hb; clear hxb hfb hkb; obtain ⟨hkb, hxb, hfb⟩ := HXb.out; clear hb; clear HLA hd1
  go_upto_region 7 with fail
  refine aD (fun w6 hw => ?_)
  have hz6 : w5.heap.size + 1 ≤ w6.heap.size := zA
  have hbn : Below w5.heap.size w5 w6 := zB
  replace HB := lH (HB.out.trans (Only.of_below hbn))
  replace HOC := lH (HOC.out.below hbn); replace HOY := lH (HOY.out.below hbn); replace HXb := nB HXb hbn; clear hxb hfb hkb; obtain ⟨hkb, hxb, hfb⟩ := HXb.out; clear hbn
  have HXx : Hid (aa w6 (w5.heap.size) [.int .i64 h.num, .int .i64 h.size, .string h.root, .int .i64 h.taken, .string h.troot]) := zG5
  obtain ⟨hkx, hxx, hfx⟩ := HXx.out; clear hw; have hs1 := HS1.out
  go_still_tail 13, (by kernel_rfl)
  change wpList _ _ _ _ _ (w6).drew
  generalize hwd : (w6).drew = wS1
  have hbS : Below (w6).heap.size w6 wS1 := by rw [← hwd]; exact (Below.refl _ _).drew
  clear hwd
  have hzwS1 : w6.heap.size ≤ wS1.heap.size := hbS.size
  replace HB := lH (HB.out.trans (Only.of_below hbS))
  replace HOC := lH (HOC.out.below hbS); replace HOY := lH (HOY.out.below hbS); replace HXb := nB HXb hbS; clear hxb hfb hkb; obtain ⟨hkb, hxb, hfb⟩ := HXb.out; replace HXx := nB HXx hbS; clear hxx hfx hkx; obtain ⟨hkx, hxx, hfx⟩ := HXx.out; clear hbS; clear hs1 HS1
  go_wp2_with fail
  refine af (fun w7 hw => ?_)
  have hz7 : wS1.heap.size + 0 ≤ w7.heap.size := zA
  have hbn : Below wS1.heap.size wS1 w7 := zB
  replace HB := lH (HB.out.trans (Only.of_below hbn))
  replace HOC := lH (HOC.out.below hbn); replace HOY := lH (HOY.out.below hbn); replace HXb := nB HXb hbn; clear hxb hfb hkb; obtain ⟨hkb, hxb, hfb⟩ := HXb.out; replace HXx := nB HXx hbn; clear hxx hfx hkx; obtain ⟨hkx, hxx, hfx⟩ := HXx.out; clear hbn; clear hw
  refine (HHS.out _ (HOC.out.e.rd (Nat.le_of_lt hkb)).base).mono ?_
  rintro e w8 ⟨A5, c5, rfl, ho5, hb⟩
  have hzw8 : w7.heap.size ≤ w8.heap.size := hb.size
  replace HB := lH (HB.out.trans (Only.of_below hb))
  replace HOC := lH (HOC.out.below hb); replace HOY := lH (HOY.out.below hb); replace HXb := nB HXb hb; clear hxb hfb hkb; obtain ⟨hkb, hxb, hfb⟩ := HXb.out; replace HXx := nB HXx hb; clear hxx hfx hkx; obtain ⟨hkx, hxx, hfx⟩ := HXx.out; clear hb
  have HOU : Hid (aI w8 (w7.heap.size) (w8.heap.size) (((9, 1), .slice A5 (ne - sz) c5, ne - sz)) (strs (aF width (es.drop sz)))) := lH (aI.of ho5)
  have hu1 : p < w7.heap.size := by omega
  clear ho5 HHS
  go_upto_region 8 with fail
  refine aD (fun w9 hw => ?_)
  have hz9 : w8.heap.size + 0 ≤ w9.heap.size := zA
  have hbn : Below w8.heap.size w8 w9 := zB
  replace HB := lH (HB.out.trans (Only.of_below hbn))
  replace HOC := lH (HOC.out.below hbn); replace HOY := lH (HOY.out.below hbn); replace HOU := lH (HOU.out.below hbn); replace HXb := nB HXb hbn; clear hxb hfb hkb; obtain ⟨hkb, hxb, hfb⟩ := HXb.out; replace HXx := nB HXx hbn; clear hxx hfx hkx; obtain ⟨hkx, hxx, hfx⟩ := HXx.out; clear hbn; clear hw; have hs2 := HS2.out
  go_still_tail 11, (by kernel_rfl)
  change wpList _ _ _ _ _ (w9).drew
  generalize hwd : (w9).drew = wS2
  have hbS : Below (w9).heap.size w9 wS2 := by rw [← hwd]; exact (Below.refl _ _).drew
  clear hwd
  have hzwS2 : w9.heap.size ≤ wS2.heap.size := hbS.size
  replace HB := lH (HB.out.trans (Only.of_below hbS))
  replace HOC := lH (HOC.out.below hbS); replace HOY := lH (HOY.out.below hbS); replace HOU := lH (HOU.out.below hbS); replace HXb := nB HXb hbS; clear hxb hfb hkb; obtain ⟨hkb, hxb, hfb⟩ := HXb.out; replace HXx := nB HXx hbS; clear hxx hfx hkx; obtain ⟨hkx, hxx, hfx⟩ := HXx.out; clear hbS; clear hs2 HS2
  go_wp2_with fail
  refine af (fun w10 hw => ?_)
  have hz10 : wS2.heap.size + 0 ≤ w10.heap.size := zA
  have hbn : Below wS2.heap.size wS2 w10 := zB
  replace HB := lH (HB.out.trans (Only.of_below hbn))
  replace HOC := lH (HOC.out.below hbn); replace HOY := lH (HOY.out.below hbn); replace HOU := lH (HOU.out.below hbn); replace HXb := nB HXb hbn; clear hxb hfb hkb; obtain ⟨hkb, hxb, hfb⟩ := HXb.out; replace HXx := nB HXx hbn; clear hxx hfx hkx; obtain ⟨hkx, hxx, hfx⟩ := HXx.out; clear hbn; clear hw
  refine (HHT.out _ (HOC.out.r.rd (Nat.le_of_lt hkb)).base).mono ?_
  rintro e w11 ⟨A6, c6, rfl, ho6, hb⟩
  have hzw11 : w10.heap.size ≤ w11.heap.size := hb.size
  replace HB := lH (HB.out.trans (Only.of_below hb))
  replace HOC := lH (HOC.out.below hb); replace HOY := lH (HOY.out.below hb); replace HOU := lH (HOU.out.below hb); replace HXb := nB HXb hb; clear hxb hfb hkb; obtain ⟨hkb, hxb, hfb⟩ := HXb.out; replace HXx := nB HXx hb; clear hxx hfx hkx; obtain ⟨hkx, hxx, hfx⟩ := HXx.out; clear hb
  have HOV : Hid (aI w11 (w10.heap.size) (w11.heap.size) (((9, 1), .slice A6 (nr - tk) c6, nr - tk)) (strs (aM width (rs.drop tk)))) := lH (aI.of ho6)
  have hv1 : p < w10.heap.size := by omega
  clear ho6 HHT; clear hxx hfx hkx HXx
  go_upto_region 9 with fail
  refine aD (fun w12 hw => ?_)
  have hz12 : w11.heap.size + 0 ≤ w12.heap.size := zA
  have hbn : Below w11.heap.size w11 w12 := zB
  replace HB := lH (HB.out.trans (Only.of_below hbn))
  replace HOC := lH (HOC.out.below hbn); replace HOY := lH (HOY.out.below hbn); replace HOU := lH (HOU.out.below hbn); replace HOV := lH (HOV.out.below hbn); replace HXb := nB HXb hbn; clear hxb hfb hkb; obtain ⟨hkb, hxb, hfb⟩ := HXb.out; clear hbn; clear hw
  go_still_tail 9, (by kernel_rfl)
  change wpList _ _ _ _ _ (w12).drew
  generalize hwd : (w12).drew = wS3
  have hbS : Below (w12).heap.size w12 wS3 := by rw [← hwd]; exact (Below.refl _ _).drew
  clear hwd
  have hzwS3 : w12.heap.size ≤ wS3.heap.size := hbS.size
  replace HB := lH (HB.out.trans (Only.of_below hbS))
  replace HOC := lH (HOC.out.below hbS); replace HOY := lH (HOY.out.below hbS); replace HOU := lH (HOU.out.below hbS); replace HOV := lH (HOV.out.below hbS); replace HXb := nB HXb hbS; clear hxb hfb hkb; obtain ⟨hkb, hxb, hfb⟩ := HXb.out; clear hbS
  go_wp2_with fail
  refine af (fun w13 hw => ?_)
  have hz13 : wS3.heap.size + 0 ≤ w13.heap.size := zA
  have hbn : Below wS3.heap.size wS3 w13 := zB
  replace HB := lH (HB.out.trans (Only.of_below hbn))
  replace HOC := lH (HOC.out.below hbn); replace HOY := lH (HOY.out.below hbn); replace HOU := lH (HOU.out.below hbn); replace HOV := lH (HOV.out.below hbn); replace HXb := nB HXb hbn; clear hxb hfb hkb; obtain ⟨hkb, hxb, hfb⟩ := HXb.out; clear hbn; clear hw
  refine (HMO.out x (HSM.out h4l) _ _ _ _ _ _ _ _ _ _ _ _ _ _ _ _ _ _ _ _ _ (HOU.out.rd (by omega)) (HOV.out.rd (by omega)) (by omega) (by omega) hu1 hv1 HOY.out HXb.out (by have h7 := HOC.out.a1; dsimp only at h7; rwa [HM1.out] at h7) (by have h7 := HOC.out.a2; dsimp only at h7; rwa [HM2.out] at h7) HAP.out).mono ?_
  rintro e w14 ⟨vv, A3, c3, A4, c4, rfl, ⟨hnb, hty, o3, o4, hkt⟩, hb⟩
  have hzw14 : w13.heap.size ≤ w14.heap.size := hb.size
  replace HB : Hid (Only (lo) (w.heap.size) w w14) := lH (by first | exact HB.out.trans hb | exact only_two HB.out hb (by omega) | exact gJ HB.out hb)
  clear hxb hfb hkb HXb; clear hb
  have hzx1 : x.size = (ne : Int) := by rw [(HSM.out h4l).z1, HNE.out]
  have hzx2 : x.taken = (nr : Int) := by rw [(HSM.out h4l).z2, HNR.out]
  rw [← hzx1, ← hzx2] at hnb
  clear hzx1 hzx2
  have qE : aI w14 lo p ((41, 5), .slice E ne ce, ne) (aR es) := by have h7 := HOC.out.e; dsimp only at h7; rw [HNE.out] at h7; exact h7.keepT hkt (by decide) (Nat.le_refl _)
  have qR : aI w14 lo p ((43, 3), .slice R nr cr, nr) (bf rs) := by have h7 := HOC.out.r; dsimp only at h7; rw [HNR.out] at h7; exact h7.keepT hkt (by decide) (Nat.le_refl _)
  have qH : aI w14 lo p ((33, 5), .slice H nh ch, nh) (hds hs) := by have h7 := HOC.out.h; dsimp only at h7; rw [HNH.out] at h7; exact h7.keepT hkt (by decide) (Nat.le_refl _)
  obtain ⟨a3, b3, ta1, ta2, ta3, ta4⟩ := rng_tight o3 hty hlp
  obtain ⟨a4, b4, tb1, tb2, tb3, tb4⟩ := rng_tight o4 hty hlp
  have HXb : Hid (aa w14 (p) [.int .i64 width, .slice E ne ce, .slice R nr cr, .slice H nh ch, .int .i64 x.size, .slice A3 (pk1 width es (hs ++ [x])).length c3, .int .i64 x.taken, .slice A4 (pk2 width rs (hs ++ [x])).length c4, .int .i64 x.num, .int .i64 x.size, .string x.root, .int .i64 x.taken, .string x.troot]) := hnb
  obtain ⟨hkb, hxb, hfb⟩ := HXb.out
  have HOE5 : Hid (aI w14 (lo) (p) (((41, 5), .slice E ne ce, ne)) (aR es)) := lH qE
  have HOR5 : Hid (aI w14 (lo) (p) (((43, 3), .slice R nr cr, nr)) (bf rs)) := lH qR
  have HOH5 : Hid (aI w14 (lo) (p) (((33, 5), .slice H nh ch, nh)) (hds hs)) := lH qH
  have HOP1 : Hid (aI w14 (a3) (b3) (((9, 1), .slice A3 (pk1 width es (hs ++ [x])).length c3, (pk1 width es (hs ++ [x])).length)) (strs (pk1 width es (hs ++ [x])))) := lH ta4
  have HOP2 : Hid (aI w14 (a4) (b4) (((9, 1), .slice A4 (pk2 width rs (hs ++ [x])).length c4, (pk2 width rs (hs ++ [x])).length)) (strs (pk2 width rs (hs ++ [x])))) := lH tb4
  clear HOC HOU HOV HOY hnb hty o3 o4 hkt qE qR qH ta4 tb4 HMO hu1 hv1
  go_upto_region 10 with fail
  refine aD (fun w15 hw => ?_)
  have hz15 : w14.heap.size + 0 ≤ w15.heap.size := zA
  have hbn : Below w14.heap.size w14 w15 := zB
  replace HB := lH (HB.out.trans (Only.of_below hbn))
  replace HOE5 := lH (HOE5.out.below hbn); replace HOR5 := lH (HOR5.out.below hbn); replace HOH5 := lH (HOH5.out.below hbn); replace HOP1 := lH (HOP1.out.below hbn); replace HOP2 := lH (HOP2.out.below hbn); replace HXb := nB HXb hbn; clear hxb hfb hkb; obtain ⟨hkb, hxb, hfb⟩ := HXb.out; clear hbn; clear hw
  have HTX2 := lH (fun v : Later w15 => HTX.out h4l v.v)
  have t0 : ∀ v : Later w15, v.v.cell? ⟨(p), 0, none⟩ = some (.int .i64 width) := fun v => (ag v _ _ hkb).trans (hxb 0)
  have t8 : ∀ v : Later w15, v.v.cell? ⟨(p), 8, none⟩ = some (.int .i64 x.num) := fun v => (ag v _ _ hkb).trans (hxb 8)
  have t9 : ∀ v : Later w15, v.v.cell? ⟨(p), 9, none⟩ = some (.int .i64 x.size) := fun v => (ag v _ _ hkb).trans (hxb 9)
  have t10 : ∀ v : Later w15, v.v.cell? ⟨(p), 10, none⟩ = some (.string x.root) := fun v => (ag v _ _ hkb).trans (hxb 10)
  have t11 : ∀ v : Later w15, v.v.cell? ⟨(p), 11, none⟩ = some (.int .i64 x.taken) := fun v => (ag v _ _ hkb).trans (hxb 11)
  have t12 : ∀ v : Later w15, v.v.cell? ⟨(p), 12, none⟩ = some (.string x.troot) := fun v => (ag v _ _ hkb).trans (hxb 12)
  refine aA (by kernel_rfl) (by kernel_rfl) ?_
  repeat (go_big_quiet_step ((with_reducible exact aC (HTX2.out _))))
  refine wpQuiet_nil ?_
  intro wS4 h9
  have hb9 := aP h9
  have hzwS4 : w15.heap.size ≤ wS4.heap.size := hb9.size
  replace HB := lH (HB.out.trans (Only.of_below hb9))
  replace HOE5 := lH (HOE5.out.below hb9); replace HOR5 := lH (HOR5.out.below hb9); replace HOH5 := lH (HOH5.out.below hb9); replace HOP1 := lH (HOP1.out.below hb9); replace HOP2 := lH (HOP2.out.below hb9); replace HXb := nB HXb hb9; clear hxb hfb hkb; obtain ⟨hkb, hxb, hfb⟩ := HXb.out; clear h9 hb9 HTX2 t0 t8 t9 t10 t11 t12; clear HTX
  go_wp2_with fail
  refine af (fun w16 hw => ?_)
  have hz16 : wS4.heap.size + 0 ≤ w16.heap.size := zA
  have hbn : Below wS4.heap.size wS4 w16 := zB
  replace HB := lH (HB.out.trans (Only.of_below hbn))
  replace HOE5 := lH (HOE5.out.below hbn); replace HOR5 := lH (HOR5.out.below hbn); replace HOH5 := lH (HOH5.out.below hbn); replace HOP1 := lH (HOP1.out.below hbn); replace HOP2 := lH (HOP2.out.below hbn); replace HXb := nB HXb hbn; clear hxb hfb hkb; obtain ⟨hkb, hxb, hfb⟩ := HXb.out; clear hbn; clear hw
  refine (HWR.out _ _ _ _ _ _ _ _ _ x HXb.out (HOE5.out.rd (by omega)).base (HOR5.out.rd (by omega)).base (HOH5.out.rd (by omega)).base tx (by omega)).mono ?_
  rintro e w17 ⟨qq, rfl, hwr, hb⟩
  have hzw17 : w16.heap.size ≤ w17.heap.size := hb.size
  replace HB := lH (HB.out.trans (Only.of_below hb))
  replace HOE5 := lH (HOE5.out.below hb); replace HOR5 := lH (HOR5.out.below hb); replace HOH5 := lH (HOH5.out.below hb); replace HOP1 := lH (HOP1.out.below hb); replace HOP2 := lH (HOP2.out.below hb); replace HXb := nB HXb hb; clear hxb hfb hkb; obtain ⟨hkb, hxb, hfb⟩ := HXb.out; clear hb
  have HOW : Hid (Rd w17 (w16.heap.size) (w17.heap.size) (some ⟨qq, 0, none⟩) (wris [⟨((1 : Nat) : Int), fsz, bJ tx⟩])) := lH hwr
  have hpz9 : p + 1 ≤ w16.heap.size := by omega
  clear hwr HWR
  go_upto_region 12 with fail
  refine aD (fun w18 hw => ?_)
  have hz18 : w17.heap.size + 0 ≤ w18.heap.size := zA
  have hbn : Below w17.heap.size w17 w18 := zB
  replace HB := lH (HB.out.trans (Only.of_below hbn))
  replace HOE5 := lH (HOE5.out.below hbn); replace HOR5 := lH (HOR5.out.below hbn); replace HOH5 := lH (HOH5.out.below hbn); replace HOP1 := lH (HOP1.out.below hbn); replace HOP2 := lH (HOP2.out.below hbn); replace HOW := lH (HOW.out.below hbn); replace HXb := nB HXb hbn; clear hxb hfb hkb; obtain ⟨hkb, hxb, hfb⟩ := HXb.out; clear hbn; clear hw
  have hpo : (.slice H nh ch : Value).ownBlock ≠ some p := fun e => by have := HOH5.out.2 p e; omega
  have HPO2 := lH hpo
  clear hpo
  have hp2 : w18.cell? ⟨p, 3, none⟩ = some (.slice H nh ch) := HXb.out.cell (o := 3) rfl
  have hpf2 : w18.frozen? ⟨p, 3, none⟩ = false := HXb.out.2.2 3
  have hpz2 : p < w18.heap.size := hkb
  go_region_law
   ((refine step_append_lies _ (by rfl) _ _ _ (by rfl) lo 33 i0 _ 5 56 Tryz.underlying28 ii0 iz0 iz1 iz2 rfl (by omega) (.slice H nh ch) nh (hds hs) (by rfl) ((HOH5.out.1.alloc _).drew)
       ⟨w18.heap.size, 0, none⟩ 1 1 (hds [x]) (by rfl) (by rfl) (World.news_of_block (heap_alloc_new w18 _)) (hds_one _)
       (by omega) (by unfold maxLen; omega) (by omega) (by simp; omega) (w18.heap.size + 1) (by simp) ?_; intro gg cap w4 hown4 hgrow hat hlt
     have hp4 : w4.cell? ⟨p, 3, none⟩ = some (.slice H nh ch) := (World.cell?_of_block (hgrow.block p (by simp; omega) (Ne.symm HPO2.out))).trans (by go_simp)
     have hpf4 : w4.frozen? ⟨p, 3, none⟩ = false := (World.frozen?_of_block (hgrow.block p (by simp; omega) (Ne.symm HPO2.out))).trans (by go_simp)
     ))
  all_goals
   go_wp2
   go_ret2
   rw [← hds_app] at hown4
   obtain ⟨q1, q2, q3⟩ := grew_row ((HOH5.out.alloc _).drew) hlp (by simp; omega) hown4 hgrow (hat.imp id (fun h => by simp; omega)) 3 (.slice (some ⟨gg, 0, none⟩) (nh + 1) cap)
   have q4 := grew_box ((HXb.out.alloc _).drew) ((HOH5.out.alloc _).drew) hgrow 3 (.slice (some ⟨gg, 0, none⟩) (nh + 1) cap)
   obtain ⟨w9, hw9⟩ : ∃ x, x = w4.setCell ⟨p, 3, none⟩ (.slice (some ⟨gg, 0, none⟩) (nh + 1) cap) := ⟨_, rfl⟩
   have hgw : gg < w9.heap.size := by rw [hw9]; simpa [World.setCell] using q3.2.2
   rw [← hw9] at q1 q2 q4 ⊢
   have hz9 : w18.heap.size ≤ w9.heap.size := Nat.le_trans (by simp) q2.on.size
   have q5 := ((HOE5.out.alloc _).drew).grew q2 (by omega) (HOE5.out.eO HOH5.out (by decide))
   have q6 := ((HOR5.out.alloc _).drew).grew q2 (by omega) (HOR5.out.eO HOH5.out (by decide))
   have q7 := ((HOP1.out.alloc _).drew).grew q2 ta3 (HOP1.out.eO HOH5.out (by decide))
   have q8 := ((HOP2.out.alloc _).drew).grew q2 tb3 (HOP2.out.eO HOH5.out (by decide))
   have hbk := brk_rows (lo := lo) (HNX.out h4l) HNE.out HNR.out (by rw [List.length_append, HNH.out] <;> rfl) q5 q6 q1 ((q7.rd (by omega)).mono (by omega) (by omega) (Nat.le_refl _)) ((q8.rd (by omega)).mono (by omega) (by omega) (Nat.le_refl _)) (q7.own (by omega)).2.1 (q8.own (by omega)).2.1 (by omega) (by omega) (by omega)
   exact ⟨0, some ⟨qq, 0, none⟩, 1, rfl, (HTR.out _ _ _ _).2 (.inr ⟨rfl, rfl, h4l, gg, cap, A3, c3, A4, c4, q4, hbk, by rw [HDW.out]; exact (((HOW.out.alloc _).drew).only q2.on (by omega)).mono (by omega) (by omega) (Nat.le_refl _)⟩), ((HB.out.alloc _).drew).trans (q2.on.mono (Nat.le_refl _) (by omega))⟩
set_option maxRecDepth 100000 in
theorem sealB_c (width : Int) (E R H A1 A2 : Option Addr) (ne nr nh ce cr ch c1 c2 m1 m2 : Nat) (es : List Ent) (rs : List Rcp) (hs : List Hd) (l1 l2 : List ByteArray) (h : Hd) (w : World) (hk : aG w 0 w.heap.size ⟨E, R, H, A1, A2, ce, cr, ch, c1, c2⟩ ⟨width, es, rs, hs⟩) (hne : es.length = ne) (hnr : rs.length = nr) (hnh : hs.length = nh) (hl1 : pk1 width es hs = l1) (hl2 : pk2 width rs hs = l2) (hm1 : l1.length = m1) (hm2 : l2.length = m2) (hh : ae hs = h) :
  Calls Tryz.prog 49 #[.agg #[.int .i64 width, .slice E ne ce, .slice R nr cr, .slice H nh ch, .int .i64 h.size, .slice A1 m1 c1, .int .i64 h.taken, .slice A2 m2 c2, .int .i64 h.num, .int .i64 h.size, .string h.root, .int .i64 h.taken, .string h.troot]] w fun e w' => ∃ (a' : Bk) (m' : Bm) (L : Option Addr) (q : Nat) (code : Int), e = .returned (.tuple #[.agg #[.int .i64 m'.width, .slice a'.E m'.es.length a'.ce, .slice a'.R m'.rs.length a'.cr, .slice a'.H m'.hs.length a'.ch, .int .i64 (ae m'.hs).size, .slice a'.A1 (pk1 m'.width m'.es m'.hs).length a'.c1, .int .i64 (ae m'.hs).taken, .slice a'.A2 (pk2 m'.width m'.rs m'.hs).length a'.c2, .int .i64 (ae m'.hs).num, .int .i64 (ae m'.hs).size, .string (ae m'.hs).root, .int .i64 (ae m'.hs).taken, .string (ae m'.hs).troot], .slice L q q, .int .i64 code]) ∧ (DoneR w w' ⟨width, es, rs, hs⟩ a' m' 1 (aL width (eH width es rs hs)) L q code ∧ (code = 0 → m' = ⟨width, es, rs, hs ++ [eH width es rs hs]⟩)) ∧ Below w.heap.size w w' := by
 have hkk := hk
 obtain ⟨f1, f2, f3, g1, g2, g3, g4, f4, g5, g6, g7⟩ := bN hk.ok
 have hlast := hk.ok.last
 have hpos := hk.ok.pos
 dsimp only at f1 f2 f3 g1 g2 g3 g4 f4 g5 g6 g7 hlast hpos
 rw [hne] at g1 hlast
 rw [hnr] at g2 hlast
 rw [hnh] at g3 g4 hpos
 rw [hh] at f4 g5 hlast
 rw [hl1, hm1] at g6
 rw [hl2, hm2] at g7
 have hok : aB width es rs hs := hk.ok
 have hbo := hok.ok
 rw [hh, hl1, hl2] at hbo
 have kE2 : ne ≤ ce := by have := hk.kE; dsimp only at this; omega
 have kR2 : nr ≤ cr := by have := hk.kR; dsimp only at this; omega
 have HBK := fun W (r : aG W 0 W.heap.size ⟨E, R, H, A1, A2, ce, cr, ch, c1, c2⟩ ⟨width, es, rs, hs⟩) => eZ width h.size h.taken E R H A1 A2 ne nr nh ce cr ch c1 c2 0 W.heap.size 0 W.heap.size 0 W.heap.size 0 W.heap.size 0 W.heap.size m1 m2 es rs hs l1 l2 h W r.rE r.rR r.rH (hl1 ▸ r.r1) (hl2 ▸ r.r2) hne hnr hnh hm1 hm2 (by omega) (by omega) (by omega) (by omega) (by omega) (by have := r.kE; dsimp only at this; omega) (by have := r.kR; dsimp only at this; omega) (by have := r.kH; dsimp only at this; omega) f1 f2 f3 f4 (by omega)
 rw [hbo] at HBK
 replace HBK := lH HBK
 have HCP := lH (fun W (r : aG W 0 W.heap.size ⟨E, R, H, A1, A2, ce, cr, ch, c1, c2⟩ ⟨width, es, rs, hs⟩) => copyBroker_c width h.size h.taken E R H A1 A2 ne nr nh ce cr ch c1 c2 m1 m2 es rs hs l1 l2 h W r.rE r.rR r.rH (hl1 ▸ r.r1) (hl2 ▸ r.r2) hne hnr hnh hm1 hm2 (by omega) (by omega) (by omega) (by omega) (by omega) r.nE r.nR r.nH r.n1 r.n2)
 have HPU := lH (fun W p lo (a3 : Bk) (bx : aa W p [.int .i64 width, .slice a3.E ne a3.ce, .slice a3.R nr a3.cr, .slice a3.H nh a3.ch, .int .i64 h.size, .slice a3.A1 m1 a3.c1, .int .i64 h.taken, .slice a3.A2 m2 a3.c2, .int .i64 h.num, .int .i64 h.size, .string h.root, .int .i64 h.taken, .string h.troot]) (ty : Typed W p) (cp : bW W lo p a3 ⟨es, rs, hs, l1, l2⟩) (ap : Apart (.slice a3.A1 m1 a3.c1) (.slice a3.A2 m2 a3.c2)) (hlp : lo ≤ p) => seal_c width a3.E a3.R a3.H a3.A1 a3.A2 ne nr nh a3.ce a3.cr a3.ch a3.c1 a3.c2 m1 m2 es rs hs l1 l2 h p lo W bx ty cp ap hok hne hnr hnh hl1 hl2 hm1 hm2 hh hlp (by have h7 := (cp.e.own (Nat.le_of_lt bx.1)).1; dsimp only at h7; omega) (by have h7 := (cp.r.own (Nat.le_of_lt bx.1)).1; dsimp only at h7; omega) (by have h7 := (cp.h.own (Nat.le_of_lt bx.1)).1; dsimp only at h7; omega))
 have hde := fun (q3 : nh < 400) => deed_seal hok (by omega)
 have HDE := lH hde
 have HNE := lH hne
 have HNR := lH hnr
 obtain ⟨x, hx⟩ : ∃ x, eH width es rs hs = x := ⟨_, rfl⟩
 have HLEN : Hid ((hs ++ [x]).length = nh + 1) := lH (by rw [List.length_append, hnh]; rfl)
 rw [hx] at HDE HPU ⊢
 have HB : Hid (Below w.heap.size w w) := Below.refl _ _
 have HOB : Hid (aG w (0) (w.heap.size) (⟨E, R, H, A1, A2, ce, cr, ch, c1, c2⟩) (⟨width, es, rs, hs⟩)) := lH hkk
 clear hk hkk f1 f2 f3 f4 hlast hne hnr hnh hl1 hl2 hm1 hm2 hh hok hbo hde hx kE2 kR2
 go_enter Tryz.func49, Tryz.ntmps49
 go_wp2_with fail
 refine af (fun w1 hw => ?_)
 have hz1 : w.heap.size + 2 ≤ w1.heap.size := zA
 have hbn : Below w.heap.size w w1 := zB
 replace HB := bT HB hbn
 replace HOB := lH (HOB.out.below hbn)
 clear hbn
 have HXb : Hid (aa w1 (w.heap.size) [.int .i64 width, .slice E ne ce, .slice R nr cr, .slice H nh ch, .int .i64 h.size, .slice A1 m1 c1, .int .i64 h.taken, .slice A2 m2 c2, .int .i64 h.num, .int .i64 h.size, .string h.root, .int .i64 h.taken, .string h.troot]) := zG13
 obtain ⟨hkb, hxb, hfb⟩ := HXb.out
 have HXq : Hid (aa w1 (w.heap.size + 1) [.int .i64 0, .slice none 0 0, .slice none 0 0, .slice none 0 0, .int .i64 0, .slice none 0 0, .int .i64 0, .slice none 0 0, .int .i64 0, .int .i64 0, .string ⟨#[]⟩, .int .i64 0, .string ⟨#[]⟩]) := zG13
 obtain ⟨hkq, hxq, hfq⟩ := HXq.out
 clear hw
 refine (HBK.out _ HOB.out.base).mono ?_
 rintro e w2 ⟨rfl, hb⟩
 have hzw2 : w1.heap.size ≤ w2.heap.size := hb.size
 replace HB := bT HB hb
 replace HOB := lH (HOB.out.below hb)
 replace HXb := nB HXb hb
 clear hxb hfb hkb
 obtain ⟨hkb, hxb, hfb⟩ := HXb.out
 replace HXq := nB HXq hb
 clear hxq hfq hkq
 obtain ⟨hkq, hxq, hfq⟩ := HXq.out
 clear hb
 go_wp2_with fail
 refine af (fun w3 hw => ?_)
 have hz3 : w2.heap.size + 0 ≤ w3.heap.size := zA
 have hbn : Below w2.heap.size w2 w3 := zB
 replace HB := bT HB hbn
 replace HOB := lH (HOB.out.below hbn)
 replace HXb := nB HXb hbn
 clear hxb hfb hkb
 obtain ⟨hkb, hxb, hfb⟩ := HXb.out
 replace HXq := nB HXq hbn
 clear hxq hfq hkq
 obtain ⟨hkq, hxq, hfq⟩ := HXq.out
 clear hbn
 clear hw
 refine (HCP.out _ HOB.out.base).mono ?_
 rintro e w4 ⟨a3, rfl, ⟨hcp, hap⟩, hb⟩
 have hzw4 : w3.heap.size ≤ w4.heap.size := hb.size
 replace HB := bT HB hb
 replace HOB := lH (HOB.out.below hb)
 replace HXb := nB HXb hb
 clear hxb hfb hkb
 obtain ⟨hkb, hxb, hfb⟩ := HXb.out
 replace HXq := nB HXq hb
 clear hxq hfq hkq
 obtain ⟨hkq, hxq, hfq⟩ := HXq.out
 clear hb
 have HOC : Hid (bW w4 (w3.heap.size) (w4.heap.size) (a3) (⟨es, rs, hs, l1, l2⟩)) := lH hcp
 have HAP := lH hap
 obtain ⟨lo5, hlo5⟩ : ∃ n, n = w3.heap.size := ⟨_, rfl⟩
 have hlo6 : lo5 ≤ w3.heap.size ∧ w3.heap.size ≤ lo5 := by omega
 rw [← hlo5] at HOC
 clear hcp hap HCP HBK hlo5
 clear HOB
 clear hxb hfb hkb HXb
 go_upto_region 4 with fail
 refine aD (fun w5 hw => ?_)
 have hz5 : w4.heap.size + 1 ≤ w5.heap.size := zA
 have hbn : Below w4.heap.size w4 w5 := zB
 replace HB := bT HB hbn
 replace HOC := lH (HOC.out.below hbn)
 replace HXq := nB HXq hbn
 clear hxq hfq hkq
 obtain ⟨hkq, hxq, hfq⟩ := HXq.out
 clear hbn
 have HXo : Hid (aa w5 (w4.heap.size) [.int .i64 width, .slice a3.E ne a3.ce, .slice a3.R nr a3.cr, .slice a3.H nh a3.ch, .int .i64 h.size, .slice a3.A1 m1 a3.c1, .int .i64 h.taken, .slice a3.A2 m2 a3.c2, .int .i64 h.num, .int .i64 h.size, .string h.root, .int .i64 h.taken, .string h.troot]) := zG13
 obtain ⟨hko, hxo, hfo⟩ := HXo.out
 have hty : Typed w5 ((w4.heap.size)) := by
  rw [hw]
  (repeat (with_reducible refine Typed.set ?_ _ _))
  exact ⟨_, _, heap_alloc_new _ _, by decide⟩
 clear hw
 have HOY : Hid (TypK w5 (0) (0) ((w4.heap.size)) (([] : List Value))) := lH hty
 clear hty
 go_wp2_with fail
 refine af (fun w6 hw => ?_)
 have hz6 : w5.heap.size + 0 ≤ w6.heap.size := zA
 have hbn : Below w5.heap.size w5 w6 := zB
 replace HB := bT HB hbn
 replace HOC := lH (HOC.out.below hbn)
 replace HOY := lH (HOY.out.below hbn)
 replace HXq := nB HXq hbn
 clear hxq hfq hkq
 obtain ⟨hkq, hxq, hfq⟩ := HXq.out
 replace HXo := nB HXo hbn
 clear hxo hfo hko
 obtain ⟨hko, hxo, hfo⟩ := HXo.out
 clear hbn
 clear hw
 refine (HPU.out _ _ lo5 a3 HXo.out HOY.out HOC.out HAP.out (by omega)).mono ?_
 rintro e w7 ⟨cd, L, ql, rfl, htr, hb⟩
 have hzw7 : w6.heap.size ≤ w7.heap.size := hb.size
 replace HB := lH (au HB.out hb (by omega) HB.out.size)
 replace HXq := lH (HXq.out.only hb (by first | omega | (simp; omega)))
 clear hxq hfq hkq
 obtain ⟨hkq, hxq, hfq⟩ := HXq.out
 clear hxo hfo hko HXo
 clear hb
 clear HOC HPU HOY HAP
 rcases htr with ⟨q1, rfl, rfl⟩ | ⟨rfl, rfl, q3, gg, cap, A3, c3, A4, c4, hnb, hbk, hwr⟩
 ·have hcq : (cd != 0) = true := bne_iff_ne.2 q1
  have HQ := lH q1
  clear q1; go_wp2
  refine ai (fun w8 hw => ?_)
  have hz8 : w7.heap.size + 0 ≤ w8.heap.size := zA
  replace HB : Hid (Below w.heap.size w w8) := zC HB
  replace HXq : Hid (aa w8 (w.heap.size + 1) [.int .i64 0, .slice none 0 0, .slice none 0 0, .slice none 0 0, .int .i64 0, .slice none 0 0, .int .i64 0, .slice none 0 0, .int .i64 0, .int .i64 0, .string ⟨#[]⟩, .int .i64 0, .string ⟨#[]⟩]) := zD HXq
  clear hxq hfq hkq; obtain ⟨hkq, hxq, hfq⟩ := HXq.out; clear hw
  refine bodyPost_ret (v := .tuple #[.agg #[.int .i64 0, .slice none 0 0, .slice none 0 0, .slice none 0 0, .int .i64 0, .slice none 0 0, .int .i64 0, .slice none 0 0, .int .i64 0, .int .i64 0, .string ⟨#[]⟩, .int .i64 0, .string ⟨#[]⟩], .slice none 0 0, .int .i64 cd]) (by simp [results, Tryz.results49, go_sem, hxq]) rfl ?_
  exact ⟨zeroBk, zeroBm, none, 0, cd, rfl, ⟨.inl ⟨HQ.out, rfl, rfl⟩, fun e => absurd e HQ.out⟩, HB.out⟩
 have HDD := lH (HDE.out q3)
 clear q3 HDE
 generalize hp1 : pk1 width es (hs ++ [x]) = p1 at *
 generalize hp2 : pk2 width rs (hs ++ [x]) = p2 at *
 have HP1 := lH hp1
 have HP2 := lH hp2
 clear hp1 hp2
 have HXo : Hid (aa w7 (w4.heap.size) [.int .i64 width, .slice a3.E ne a3.ce, .slice a3.R nr a3.cr, .slice (some ⟨gg, 0, none⟩) (nh + 1) cap, .int .i64 x.size, .slice A3 p1.length c3, .int .i64 x.taken, .slice A4 p2.length c4, .int .i64 x.num, .int .i64 x.size, .string x.root, .int .i64 x.taken, .string x.troot]) := hnb
 obtain ⟨hko, hxo, hfo⟩ := HXo.out
 have HOK : Hid (aG w7 (lo5) (w7.heap.size) (⟨a3.E, a3.R, some ⟨gg, 0, none⟩, A3, A4, a3.ce, a3.cr, cap, c3, c4⟩) (⟨width, es, rs, hs ++ [x]⟩)) := lH hbk
 have HOW : Hid (Rd w7 (lo5) (w7.heap.size) (L) (wris [dZ ⟨width, es, rs, hs⟩ 1 (aL width x)])) := lH hwr
 clear hbk hwr hnb
 go_wp2
 refine ai (fun w8 hw => ?_)
 have hz8 : w7.heap.size + 0 ≤ w8.heap.size := zA
 replace HB : Hid (Below w.heap.size w w8) := zC HB
 replace HOK : Hid (aG w8 (lo5) (w7.heap.size) (⟨a3.E, a3.R, some ⟨gg, 0, none⟩, A3, A4, a3.ce, a3.cr, cap, c3, c4⟩) (⟨width, es, rs, hs ++ [x]⟩)) := zLBrkK HOK
 replace HOW : Hid (Rd w8 (lo5) (w7.heap.size) (L) (wris [dZ ⟨width, es, rs, hs⟩ 1 (aL width x)])) := zLRd HOW
 replace HXq : Hid (aa w8 (w.heap.size + 1) [.int .i64 width, .slice a3.E ne a3.ce, .slice a3.R nr a3.cr, .slice (some ⟨gg, 0, none⟩) (nh + 1) cap, .int .i64 x.size, .slice A3 p1.length c3, .int .i64 x.taken, .slice A4 p2.length c4, .int .i64 x.num, .int .i64 x.size, .string x.root, .int .i64 x.taken, .string x.troot]) := zD HXq
 clear hxq hfq hkq
 obtain ⟨hkq, hxq, hfq⟩ := HXq.out
 replace HXo : Hid (aa w8 (w4.heap.size) [.int .i64 width, .slice a3.E ne a3.ce, .slice a3.R nr a3.cr, .slice (some ⟨gg, 0, none⟩) (nh + 1) cap, .int .i64 x.size, .slice A3 p1.length c3, .int .i64 x.taken, .slice A4 p2.length c4, .int .i64 x.num, .int .i64 x.size, .string x.root, .int .i64 x.taken, .string x.troot]) := zE HXo
 clear hxo hfo hko
 obtain ⟨hko, hxo, hfo⟩ := HXo.out
 clear hw
 refine bodyPost_ret (v := .tuple #[.agg #[.int .i64 width, .slice a3.E ne a3.ce, .slice a3.R nr a3.cr, .slice (some ⟨gg, 0, none⟩) (nh + 1) cap, .int .i64 x.size, .slice A3 p1.length c3, .int .i64 x.taken, .slice A4 p2.length c4, .int .i64 x.num, .int .i64 x.size, .string x.root, .int .i64 x.taken, .string x.troot], .slice L 1 1, .int .i64 0]) (by simp [results, Tryz.results49, go_sem, hxq]) rfl ?_
 exact ⟨⟨a3.E, a3.R, some ⟨gg, 0, none⟩, A3, A4, a3.ce, a3.cr, cap, c3, c4⟩, ⟨width, es, rs, hs ++ [x]⟩, L, 1, 0, by dsimp only; rw [HLEN.out, HNE.out, HNR.out, HP1.out, HP2.out, dN], ⟨.inr ⟨rfl, rfl, HDD.out, HOK.out.mono (by omega) (by omega) (Nat.le_refl _), HOW.out.mono (by omega) (by omega) (Nat.le_refl _)⟩, fun _ => rfl⟩, HB.out⟩
end
end Go.Proofs.YtoccjgcokffkbaaGreat
