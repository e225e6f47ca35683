/- AuditOf: the helpers of both. -/
import Derived.Test.YtmmepogjocfefaaGreatLf
namespace Go.Proofs.YtmmepogjocfefaaGreat
set_option linter.unusedVariables false
set_option linter.unusedSimpArgs false
open Go.RowKit Go.Shelf

def hasTk (hs : List Hd) (m : Int) : Bool := hs.any (fun x => x.taken == m)
theorem tk_le {width : Int} {es : List Ent} {rs : List Rcp} {hs : List Hd} (hp : BrkParts width es rs hs) {m : Int} (h : hasTk hs m = true) : 0 ≤ m ∧ m ≤ (rs.length : Nat) := by
 rw [hasTk, List.any_eq_true] at h
 obtain ⟨x, hx, he⟩ := h
 obtain ⟨k, hk⟩ := List.getElem?_of_mem hx
 have h4 := hp.roots
 rw [rootsOk, Bool.and_eq_true] at h4
 have h5 := rootsTo_le (k := k + 1) (by have := (List.getElem?_eq_some_iff.1 hk).1; omega) h4.2
 rw [rootsTo_succ hk, Bool.and_eq_true] at h5
 have h6 := (rootsAt_all h5.2).2.1
 rw [takenM_len] at h6
 have h7 := headOk_all (headsOk_at hp.heads hk).2.1
 have h8 : x.taken = m := by simpa using he
 omega
def auI (rs : List Rcp) (r : Rcp) (m : Int) : Int := rcpPos r (rs.take m.toNat) 0
def auC (rs : List Rcp) (hs : List Hd) (r : Rcp) (m : Int) : Int := if hasTk hs m then (if auI rs r m < 0 then 3 else 0) else 2
def auZ (rs : List Rcp) (hs : List Hd) (r : Rcp) (m : Int) : Int := if auC rs hs r m = 0 then auI rs r m else 0
def auL (width : Int) (rs : List Rcp) (hs : List Hd) (r : Rcp) (m : Int) : List ByteArray := if auC rs hs r m = 0 then incFu width 513 ((takenM width rs).take m.toNat) (auI rs r m).toNat else []
theorem au_no (width : Int) (rs : List Rcp) {hs : List Hd} {r : Rcp} {m : Int} (h : hasTk hs m = false) : auC rs hs r m = 2 ∧ auZ rs hs r m = 0 ∧ auL width rs hs r m = [] := by
 have h3 : auC rs hs r m = 2 := by rw [auC, h]; rfl
 exact ⟨h3, by rw [auZ, h3, if_neg (by decide)], by rw [auL, h3, if_neg (by decide)]⟩
theorem au_out (width : Int) {rs : List Rcp} {hs : List Hd} {r : Rcp} {m : Int} (h : hasTk hs m = true) (hk : auI rs r m < 0) : auC rs hs r m = 3 ∧ auZ rs hs r m = 0 ∧ auL width rs hs r m = [] := by
 have h3 : auC rs hs r m = 3 := by rw [auC, h, if_pos rfl, if_pos hk]
 exact ⟨h3, by rw [auZ, h3, if_neg (by decide)], by rw [auL, h3, if_neg (by decide)]⟩
theorem au_in (width : Int) {rs : List Rcp} {hs : List Hd} {r : Rcp} {m k : Nat} (h : hasTk hs m = true) (hk : auI rs r m = k) : auC rs hs r m = 0 ∧ auZ rs hs r m = k ∧ auL width rs hs r m = incFu width 513 ((takenM width rs).take m) k := by
 have h3 : auC rs hs r m = 0 := by rw [auC, h, if_pos rfl, if_neg (by omega)]
 exact ⟨h3, by rw [auZ, h3, if_pos rfl, hk], by rw [auL, h3, if_pos rfl, hk, Int.toNat_natCast, Int.toNat_natCast]⟩
theorem auI_two (rs : List Rcp) (r : Rcp) (m : Nat) : auI rs r m = -1 ∨ ∃ k : Nat, k < m ∧ auI rs r m = k := by
 rw [auI, Int.toNat_natCast]
 rcases rcpPos_ge (r := r) (rs.take m) 0 with ⟨h, _⟩ | ⟨k, h1, h2, _⟩
 ·exact .inl h
 ·exact .inr ⟨k, by rw [List.length_take] at h1; omega, by rw [h2, Nat.zero_add]⟩
theorem any_take {α : Type} {p : α → Bool} {l : List α} {k : Nat} {x : α} (h : l[k]? = some x) : (l.take (k + 1)).any p = ((l.take k).any p || p x) := by
 rw [take_succ h, List.any_append]; simp
def AuPost (w : World) (z : Int) (l : List ByteArray) (code : Int) (e : Ending) (w' : World) : Prop :=
 (∃ (A : Option Addr) (c : Nat), e = .returned (.tuple #[.int .i64 z, .slice A l.length c, .int .i64 code]) ∧ Own w' w.heap.size w'.heap.size A (strs l)) ∧ Below w.heap.size w w'
theorem au_none {w w' : World} (A : Option Addr) (c : Nat) (hB : Below w.heap.size w w') (code : Int) : AuPost w 0 [] code (.returned (.tuple #[.int .i64 0, .slice A 0 c, .int .i64 code])) w' :=
 ⟨⟨A, c, rfl, Own.nil⟩, hB⟩
set_option maxRecDepth 100000 in
set_option maxHeartbeats 4000000 in
theorem tkPred_c (m : Int) (B1 : Nat) (x : Hd) (w : World) (h1 : B1 < w.heap.size) (hc1 : w.cell? ⟨B1, 0, none⟩ = some (.int .i64 m)) :
  Calls Tryz.prog 89 #[.agg #[.int .i64 x.num, .int .i64 x.size, .string x.root, .int .i64 x.taken, .string x.troot], .pointer (some ⟨B1, 0, none⟩)] w fun e w' => e = .returned (.bool (x.taken == m)) ∧ Below w.heap.size w w' := by
 go_enter Tryz.func89, Tryz.ntmps89
 go_wp2
 go_ret
 exact ⟨ret_bool (by first | rfl | (simp; done)), (Below.refl _ _).alloc (Nat.le_refl _) _⟩
set_option maxRecDepth 100000 in
set_option maxHeartbeats 4000000 in
theorem tkFunc_c (A : Option Addr) (c lo hi n : Nat) (l : List Hd) (m : Int) (B1 : Nat) (w : World) (hr : Rd w lo hi A (hds l)) (hn : l.length = n) (hl : n ≤ 1048576) (h1 : B1 < w.heap.size) (hc1 : w.cell? ⟨B1, 0, none⟩ = some (.int .i64 m)) :
  Calls Tryz.prog 138 #[.slice A n c, .func (.func 89) #[] #[.pointer (some ⟨B1, 0, none⟩)]] w fun e w' => e = .returned (.int .i64 (firstOf (fun x => x.taken == m) l 0)) ∧ Below w.heap.size w w' := by
 have HN := Lib.hid hn
 clear hn
 have eg : ∀ args w, (callFunc 89 args).run Tryz.prog w = .ok (.enter 89 args) w := enters_of Tryz.func89 (by kernel_rfl) rfl
 go_enter Tryz.func138, Tryz.ntmps138
 go_wp2
 go_loopw [5, 8] (fun _ i wr => ∃ k : Nat, k ≤ n ∧ i = .int .i64 k ∧ firstOf (fun x => x.taken == m) l 0 = firstOf (fun x => x.taken == m) (l.drop k) k ∧ Below w.heap.size w wr) (fun _ i _ => n - (intOf i).toNat)
 case atStart => exact ⟨0, Nat.zero_le _, rfl, rfl, Below.refl _ _⟩
 case round =>
  obtain ⟨k, hk, rfl, hst, hb0⟩ := hrel
  have HST := Lib.hid hst
  have HB0 := Lib.hid hb0
  clear hst
  by_cases hlt : k < n
  ·obtain ⟨b, off, x, rfl, hb, hks, hc⟩ := hd_cells (hr.below hb0) (k := k) (by rw [HN.out]; exact hlt)
   have hc0 := hc.1
   have hc1' := hc.2.1
   have hc2 := hc.2.2.1
   have hc3 := hc.2.2.2.1
   have hc4 := hc.2.2.2.2
   have hI1 : (0 : Int) ≤ (k : Int) := by omega
   have hI2 : (k : Int) < (n : Int) := by omega
   have HK := Lib.hid hks
   have HP := Lib.hid (tkPred_c m B1 x wr (Nat.lt_of_lt_of_le h1 hb0.size) ((hb0.cell (p := ⟨B1, 0, none⟩) h1).trans hc1))
   clear hc hks hr hb0 hc1
   rcases hp : (x.taken == m) with _ | _
   ·have HS := Lib.hid (firstOf_miss (p := fun x => x.taken == m) HK.out hp)
    rw [hp] at HP
    go_wp2_with (go_at_fn 89; refine HP.out.mono ?_; rintro e w2 ⟨rfl, hb2⟩)
    go_roundw
    case rel => exact ⟨k + 1, by omega, by go_num, by rw [HST.out, HS.out], below_then HB0.out hb2 HB0.out.size⟩
    case measure => simp [intOf]; omega
   ·have HS := Lib.hid (firstOf_hit (p := fun x => x.taken == m) HK.out hp)
    rw [hp] at HP
    go_wp2_with (go_at_fn 89; refine HP.out.mono ?_; rintro e w2 ⟨rfl, hb2⟩)
    go_ret
    exact ⟨ret_int (by rw [HST.out, HS.out]), below_then HB0.out hb2 HB0.out.size⟩
  ·obtain rfl : k = n := by omega
   clear hr hb0
   go_wp2
   go_ret
   exact ⟨ret_int (by rw [HST.out, ← HN.out, firstOf_end]), HB0.out⟩
set_option maxRecDepth 100000 in
set_option maxHeartbeats 4000000 in
theorem tkContains_c (A : Option Addr) (c lo hi n : Nat) (l : List Hd) (m : Int) (B1 : Nat) (w : World) (hr : Rd w lo hi A (hds l)) (hn : l.length = n) (hl : n ≤ 1048576) (h1 : B1 < w.heap.size) (hc1 : w.cell? ⟨B1, 0, none⟩ = some (.int .i64 m)) :
  Calls Tryz.prog 88 #[.slice A n c, .func (.func 89) #[] #[.pointer (some ⟨B1, 0, none⟩)]] w fun e w' => e = .returned (.bool (hasTk l m)) ∧ Below w.heap.size w w' := by
 have HI := Lib.hid (tkFunc_c A c lo hi n l m B1 w hr hn hl h1 hc1)
 have HD : Hid (decide (0 ≤ firstOf (fun x => x.taken == m) l 0) = hasTk l m) := Lib.hid firstOf_any
 clear hr hn hc1
 generalize firstOf (fun x => x.taken == m) l 0 = q at *
 go_enter Tryz.func88, Tryz.ntmps88
 go_wp2_with fail
 refine HI.out.mono ?_
 rintro e w2 ⟨rfl, hb⟩
 have HB := Lib.hid hb
 clear hb HI
 rcases (show 0 ≤ q ∨ ¬ 0 ≤ q by omega) with hq | hq
 ·go_wp2
  go_ret
  exact ⟨ret_bool (by rw [← HD.out, decide_eq_true hq]), HB.out⟩
 ·go_wp2
  go_ret
  exact ⟨ret_bool (by rw [← HD.out, decide_eq_false (by omega)]), HB.out⟩
set_option maxRecDepth 100000 in
set_option maxHeartbeats 4000000 in
theorem rcpIndex_c (A : Option Addr) (c lo hi n : Nat) (l : List Rcp) (r : Rcp) (w : World) (hr : Rd w lo hi A (rcps l)) (hn : l.length = n) (hl : n ≤ 1048576) (hf : ∀ x ∈ l, x.fits) (hrf : r.fits) :
  Calls Tryz.prog 90 #[.slice A n c, .agg #[.string r.reader, .string r.topic, .int .i64 r.index]] w fun e w' => e = .returned (.int .i64 (rcpPos r l 0)) ∧ Below w.heap.size w w' := by
 have HN := Lib.hid hn
 have HR := Lib.hid hr
 have HF := Lib.hid hf
 clear hn hr hf
 go_enter Tryz.func90, Tryz.ntmps90
 go_wp2
 go_loopw [5, 8] (fun _ i wr => ∃ (k : Nat), k ≤ n ∧ i = .int .i64 k ∧ rcpPos r l 0 = rcpPos r (l.drop k) k ∧ NewBox wr w.heap.size [.string r.reader, .string r.topic, .int .i64 r.index] ∧ Below w.heap.size w wr) (fun _ i _ => n - (intOf i).toNat)
 case atStart => exact ⟨0, Nat.zero_le _, rfl, rfl, NewBox.new w #[.string r.reader, .string r.topic, .int .i64 r.index] _, (Below.refl _ _).alloc (Nat.le_refl _) _⟩
 case round =>
  obtain ⟨k, hk, rfl, hst, hx, hb0⟩ := hrel
  have HST := Lib.hid hst
  have HB0 := Lib.hid hb0
  have HX := Lib.hid hx
  have hzr := hx.1
  have e0 : wr.cell? ⟨w.heap.size, 0, none⟩ = some (.string r.reader) := hx.cell (o := 0) rfl
  have e1 : wr.cell? ⟨w.heap.size, 1, none⟩ = some (.string r.topic) := hx.cell (o := 1) rfl
  have e2 : wr.cell? ⟨w.heap.size, 2, none⟩ = some (.int .i64 r.index) := hx.cell (o := 2) rfl
  clear hst hx hb0
  by_cases hlt : k < n
  ·obtain ⟨b, off, x, rfl, hb, hks, hc⟩ := rcp_cells (HR.out.below HB0.out) (k := k) (by rw [HN.out]; exact hlt)
   have hc0 := hc.1
   have hc1 := hc.2.1
   have hc2 := hc.2.2
   have HK := Lib.hid hks
   have hI1 : (0 : Int) ≤ (k : Int) := by omega
   have hI : (k : Int) < n := by omega
   have heq := eqlRcp r x hrf (HF.out x (List.mem_of_getElem? hks))
   have HM := Lib.hid (fun h => rcpPos_miss (r := r) hks h)
   clear hc hks
   go_wp2_with fail
   go_quiet (fail)
   generalize hw5 : wr.drewN _ = w5
   have HX5 : Hid (NewBox w5 w.heap.size [.string r.reader, .string r.topic, .int .i64 r.index]) := by rw [Hid, ← hw5]; exact HX.out.drewN _
   have HB5 : Hid (Below w.heap.size w w5) := by rw [Hid, ← hw5]; exact below_then HB0.out (below_drewN _ _) HB0.out.size
   clear hw5 heq e0 e1 e2 hc0 hc1 hc2
   rcases hd : decide (r = x) with _ | _
   ·have HH := Lib.hid (HM.out (fun e => of_decide_eq_false hd e.symm))
    clear hd HM
    go_wp2
    go_roundw
    case rel => exact ⟨k + 1, by omega, by go_num, by rw [HST.out, HH.out], HX5.out, HB5.out⟩
    case measure => simp [intOf]; omega
   ·have HH := Lib.hid (rcpPos_hit (r := r) (by rw [of_decide_eq_true hd]; exact HK.out))
    clear hd HM
    go_wp2
    go_ret
    exact ⟨ret_int (by rw [HST.out, HH.out]), HB5.out⟩
  ·obtain rfl : k = n := by omega
   clear e0 e1 e2
   go_wp2
   go_ret
   exact ⟨ret_int (by rw [HST.out, ← HN.out, rcpPos_end]), HB0.out⟩
set_option maxRecDepth 100000 in
set_option maxHeartbeats 4000000 in
theorem audit_c (width z1 z2 : Int) (p : Nat) (E R H A1 A2 : Option Addr) (ne nr nh ce cr ch c1 c2 lo2 hi2 lo3 hi3 m1 m2 : Nat) (es : List Ent) (rs : List Rcp) (hs : List Hd) (h : Hd) (r : Rcp) (c : Int) (w : World) (hbx : NewBox w p [.int .i64 width, .slice E ne ce, .slice R nr cr, .slice H nh ch, .int .i64 z1, .slice A1 m1 c1, .int .i64 z2, .slice A2 m2 c2, .int .i64 h.num, .int .i64 h.size, .string h.root, .int .i64 h.taken, .string h.troot])
  (hR : Rd w lo2 hi2 R (rcps rs)) (hH : Rd w lo3 hi3 H (hds hs)) (hnr : rs.length = nr) (hnh : hs.length = nh) (b2 : nr ≤ 1048576) (b3 : nh ≤ 1048576) (b7 : nr ≤ cr) (hfr : ∀ x ∈ rs, x.fits) (hrf : r.fits) (hp : BrkParts width es rs hs) :
  Calls Tryz.prog 47 #[.pointer (some ⟨p, 0, none⟩), .agg #[.string r.reader, .string r.topic, .int .i64 r.index], .int .i64 c] w (AuPost w (auZ rs hs r c) (auL width rs hs r c) (auC rs hs r c)) := by
 have HLE := Lib.hid (fun (hq : hasTk hs c = true) => tk_le hp hq)
 have HNO := Lib.hid (fun (hq : hasTk hs c = false) => au_no (r := r) width rs hq)
 have hta := takenM_are hp.wd hp.rcps
 have htl := (takenM_len width rs).trans hnr
 have h52 : nr ≤ 512 := by rw [← hnr]; exact rcpsOk_len hp.rcps
 have HW := Lib.hid (And.intro hp.wd (And.intro hta (And.intro htl hnr)))
 have HNH := Lib.hid hnh
 have HIX := Lib.hid (fun W m (q : Rd W 0 W.heap.size R (rcps rs)) (hm : m ≤ nr) => rcpIndex_c R cr 0 W.heap.size m (rs.take m) r W (q.rcpsTake m) (by rw [List.length_take]; omega) (by omega) (fun x hx => hfr x (List.mem_of_mem_take hx)) hrf)
 have HTK := Lib.hid (fun W m (q : NewBox W p [.int .i64 width, .slice E ne ce, .slice R nr cr, .slice H nh ch, .int .i64 z1, .slice A1 m1 c1, .int .i64 z2, .slice A2 m2 c2, .int .i64 h.num, .int .i64 h.size, .string h.root, .int .i64 h.taken, .string h.troot]) (r : Rd W 0 W.heap.size R (rcps rs)) (hm : m ≤ nr) => takens_c width z1 z2 p m E R H A1 A2 ne nr nh ce cr ch c1 c2 0 W.heap.size m1 m2 rs h W q r hnr b2 b7 hm hfr)
 have HCF : Hid (∀ W, Rd W 0 W.heap.size H (hds hs) → ∀ B1, B1 < W.heap.size → W.cell? ⟨B1, 0, none⟩ = some (.int .i64 c) → _) := Lib.hid (fun W q B1 hb hc => tkContains_c H ch 0 W.heap.size nh hs c B1 W q hnh b3 hb hc)
 have hpw : p < w.heap.size := hbx.1
 have HB : Hid (Below w.heap.size w w) := Below.refl _ _
 have HOR : Hid (Rd w (0) (w.heap.size) (R) (rcps rs)) := Rd.base hR
 have HOH : Hid (Rd w (0) (w.heap.size) (H) (hds hs)) := Rd.base hH
 replace HB : Hid (Below w.heap.size w w) := (Below.refl _ _)
 have HXb : Hid (NewBox w (p) [.int .i64 width, .slice E ne ce, .slice R nr cr, .slice H nh ch, .int .i64 z1, .slice A1 m1 c1, .int .i64 z2, .slice A2 m2 c2, .int .i64 h.num, .int .i64 h.size, .string h.root, .int .i64 h.taken, .string h.troot]) := hbx
 have hxb := HXb.out.2.1
 have hfb := HXb.out.2.2
 have hkb := HXb.out.1
 clear hbx
 clear hR hH hnr hnh hfr hrf hp hta htl
 go_enter Tryz.func47, Tryz.ntmps47
 go_wp2_with fail
 refine calls_named (fun w1 hw => ?_)
 have hz1 : w.heap.size + 2 ≤ w1.heap.size := by rw [hw]; first | omega | (simp [World.setCell]; done) | (simp [World.setCell]; omega)
 have hzz1 : w.heap.size ≤ w1.heap.size := by omega
 have hbn : Below w.heap.size w w1 := by rw [hw]; exact (by ((repeat (first | ((with_reducible refine Below.alloc ?_ ?_ _); rotate_left 1; (focus (first | omega | (simp; done) | (simp; omega)))) | (with_reducible refine Below.drew ?_) | ((with_reducible refine Below.setCell ?_ ?_ _); rotate_left 1; (focus (first | omega | (simp; done) | (simp; omega)))))); exact Below.refl _ _))
 replace HB := Lib.hid (below_then HB.out hbn HB.out.size)
 replace HOR := Lib.hid (HOR.out.below hbn)
 replace HOH := Lib.hid (HOH.out.below hbn)
 replace HXb := Lib.hid (HXb.out.below hbn)
 clear hxb hfb hkb
 have hxb := HXb.out.2.1
 have hfb := HXb.out.2.2
 have hkb := HXb.out.1
 clear hbn
 have HXr : Hid (NewBox w1 (w.heap.size) [.string r.reader, .string r.topic, .int .i64 r.index]) := by rw [Hid, hw]; exact ⟨by first | omega | (simp [World.setCell]; done) | (simp [World.setCell]; omega), fun o => by rcases o with _ | _ | _ | o <;> go_simp, fun o => by go_simp⟩
 have hxr := HXr.out.2.1
 have hfr := HXr.out.2.2
 have hkr := HXr.out.1
 have HXt : Hid (NewBox w1 (w.heap.size + 1) [.int .i64 c]) := by rw [Hid, hw]; exact ⟨by first | omega | (simp [World.setCell]; done) | (simp [World.setCell]; omega), fun o => by rcases o with _ | o <;> go_simp, fun o => by go_simp⟩
 have hxt := HXt.out.2.1
 have hft := HXt.out.2.2
 have hkt := HXt.out.1
 clear hw
 refine (HCF.out _ HOH.out.base _ hkt (hxt 0)).mono ?_
 rintro e w2 ⟨rfl, hb⟩
 have hzw2 : w1.heap.size ≤ w2.heap.size := hb.size
 have hzzw2 : w.heap.size ≤ w2.heap.size := by omega
 replace HB := Lib.hid (below_then HB.out hb HB.out.size)
 replace HOR := Lib.hid (HOR.out.below hb)
 replace HOH := Lib.hid (HOH.out.below hb)
 replace HXb := Lib.hid (HXb.out.below hb)
 clear hxb hfb hkb
 have hxb := HXb.out.2.1
 have hfb := HXb.out.2.2
 have hkb := HXb.out.1
 replace HXr := Lib.hid (HXr.out.below hb)
 clear hxr hfr hkr
 have hxr := HXr.out.2.1
 have hfr := HXr.out.2.2
 have hkr := HXr.out.1
 replace HXt := Lib.hid (HXt.out.below hb)
 clear hxt hft hkt
 have hxt := HXt.out.2.1
 have hft := HXt.out.2.2
 have hkt := HXt.out.1
 clear hb
 clear HCF
 rcases hq1 : hasTk hs c with _ | _
 ·have HEQ := Lib.hid (HNO.out hq1)
  clear HNO HLE hq1 HTK HW HIX
  go_wp2
  refine bodyPost_named (fun w3 hw => ?_)
  have hz3 : w2.heap.size + 0 ≤ w3.heap.size := by rw [hw]; first | omega | (simp [World.setCell]; done) | (simp [World.setCell]; omega)
  have hzz3 : w.heap.size ≤ w3.heap.size := by omega
  have hbn : Below w2.heap.size w2 w3 := by rw [hw]; exact (by ((repeat (first | ((with_reducible refine Below.alloc ?_ ?_ _); rotate_left 1; (focus (first | omega | (simp; done) | (simp; omega)))) | (with_reducible refine Below.drew ?_) | ((with_reducible refine Below.setCell ?_ ?_ _); rotate_left 1; (focus (first | omega | (simp; done) | (simp; omega)))))); exact Below.refl _ _))
  replace HB := Lib.hid (below_then HB.out hbn HB.out.size)
  replace HOR := Lib.hid (HOR.out.below hbn)
  replace HOH := Lib.hid (HOH.out.below hbn)
  replace HXb := Lib.hid (HXb.out.below hbn)
  clear hxb hfb hkb
  have hxb := HXb.out.2.1
  have hfb := HXb.out.2.2
  have hkb := HXb.out.1
  replace HXr := Lib.hid (HXr.out.below hbn)
  clear hxr hfr hkr
  have hxr := HXr.out.2.1
  have hfr := HXr.out.2.2
  have hkr := HXr.out.1
  replace HXt := Lib.hid (HXt.out.below hbn)
  clear hxt hft hkt
  have hxt := HXt.out.2.1
  have hft := HXt.out.2.2
  have hkt := HXt.out.1
  clear hbn
  clear hw
  refine bodyPost_ret (v := .tuple #[.int .i64 0, .slice none 0 0, .int .i64 2]) (by simp [results, Tryz.results47, go_sem]) rfl ?_
  rw [HEQ.out.1, HEQ.out.2.1, HEQ.out.2.2]
  exact au_none _ _ HB.out 2
 have hle := HLE.out hq1
 obtain ⟨m, rfl⟩ : ∃ m : Nat, c = m := ⟨c.toNat, by omega⟩
 have hmn : m ≤ nr := by have := HW.out.2.2.2; omega
 have HOUT := Lib.hid (fun (hk : auI rs r m < 0) => au_out width hq1 hk)
 have HINN := Lib.hid (fun (k : Nat) (hk : auI rs r m = k) => au_in width hq1 hk)
 have HTWO := Lib.hid (auI_two rs r m)
 have hix2 := fun W (q : Rd W 0 W.heap.size R (rcps rs)) => HIX.out W m q hmn
 rw [show rcpPos r (rs.take m) 0 = auI rs r m by rw [auI, Int.toNat_natCast]] at hix2
 have HIX2 := Lib.hid hix2
 clear hix2 HIX HNO HLE hq1 hle
 have hpr := slicePreR R nr cr m (by omega)
 go_wp2_with fail
 refine wp_named (fun w3 hw => ?_)
 have hz3 : w2.heap.size + 0 ≤ w3.heap.size := by rw [hw]; first | omega | (simp [World.setCell]; done) | (simp [World.setCell]; omega)
 have hzz3 : w.heap.size ≤ w3.heap.size := by omega
 have hbn : Below w2.heap.size w2 w3 := by rw [hw]; exact (by ((repeat (first | ((with_reducible refine Below.alloc ?_ ?_ _); rotate_left 1; (focus (first | omega | (simp; done) | (simp; omega)))) | (with_reducible refine Below.drew ?_) | ((with_reducible refine Below.setCell ?_ ?_ _); rotate_left 1; (focus (first | omega | (simp; done) | (simp; omega)))))); exact Below.refl _ _))
 replace HB := Lib.hid (below_then HB.out hbn HB.out.size)
 replace HOR := Lib.hid (HOR.out.below hbn)
 replace HOH := Lib.hid (HOH.out.below hbn)
 replace HXb := Lib.hid (HXb.out.below hbn)
 clear hxb hfb hkb
 have hxb := HXb.out.2.1
 have hfb := HXb.out.2.2
 have hkb := HXb.out.1
 replace HXr := Lib.hid (HXr.out.below hbn)
 clear hxr hfr hkr
 have hxr := HXr.out.2.1
 have hfr := HXr.out.2.2
 have hkr := HXr.out.1
 replace HXt := Lib.hid (HXt.out.below hbn)
 clear hxt hft hkt
 have hxt := HXt.out.2.1
 have hft := HXt.out.2.2
 have hkt := HXt.out.1
 clear hbn
 clear hw
 have HL := Lib.hid (fun v : Later w3 => HIX2.out v.v (HOR.out.below v.h).base)
 have E1 : (m : Int) ≤ cr := by omega
 have l2 : ∀ v : Later w3, v.v.cell? ⟨p, 2, none⟩ = some (.slice R nr cr) := fun v => (later_cell v _ _ hkb).trans (hxb 2)
 have l9 : ∀ v : Later w3, v.v.cell? ⟨(w.heap.size + 1), 0, none⟩ = some (.int .i64 (m : Nat)) := fun v => (later_cell v _ _ hkt).trans (hxt 0)
 have l3 : ∀ v : Later w3, v.v.cell? ⟨(w.heap.size), 0, none⟩ = some (.string r.reader) := fun v => (later_cell v _ _ hkr).trans (hxr 0)
 have l4 : ∀ v : Later w3, v.v.cell? ⟨(w.heap.size), 1, none⟩ = some (.string r.topic) := fun v => (later_cell v _ _ hkr).trans (hxr 1)
 have l5 : ∀ v : Later w3, v.v.cell? ⟨(w.heap.size), 2, none⟩ = some (.int .i64 r.index) := fun v => (later_cell v _ _ hkr).trans (hxr 2)
 generalize auI rs r m = q at *
 refine wp_region_later (by kernel_rfl) (by kernel_rfl) ?_
 repeat (go_big_quiet_step ((with_reducible exact later_call (HL.out _))))
 refine wpQuiet_nil ?_
 intro wL h9
 have hb9 := later_below h9
 have hzwL : w3.heap.size ≤ wL.heap.size := hb9.size
 have hzzwL : w.heap.size ≤ wL.heap.size := by omega
 replace HB := Lib.hid (below_then HB.out hb9 HB.out.size)
 replace HOR := Lib.hid (HOR.out.below hb9)
 replace HOH := Lib.hid (HOH.out.below hb9)
 replace HXb := Lib.hid (HXb.out.below hb9)
 clear hxb hfb hkb
 have hxb := HXb.out.2.1
 have hfb := HXb.out.2.2
 have hkb := HXb.out.1
 replace HXr := Lib.hid (HXr.out.below hb9)
 clear hxr hfr hkr
 have hxr := HXr.out.2.1
 have hfr := HXr.out.2.2
 have hkr := HXr.out.1
 replace HXt := Lib.hid (HXt.out.below hb9)
 clear hxt hft hkt
 have hxt := HXt.out.2.1
 have hft := HXt.out.2.2
 have hkt := HXt.out.1
 clear l2 l3 l4 l5 h9 hb9 HL HIX2 l9
 rcases HTWO.out with hq | ⟨k, hkm, hq⟩
 ·have HEQ := Lib.hid (HOUT.out (by omega))
  have hq0 : q < 0 := by omega
  clear HOUT HINN HTWO hq HTK HW hpr
  go_wp2
  refine bodyPost_named (fun w4 hw => ?_)
  have hz4 : wL.heap.size + 0 ≤ w4.heap.size := by rw [hw]; first | omega | (simp [World.setCell]; done) | (simp [World.setCell]; omega)
  have hzz4 : w.heap.size ≤ w4.heap.size := by omega
  have hbn : Below wL.heap.size wL w4 := by rw [hw]; exact (by ((repeat (first | ((with_reducible refine Below.alloc ?_ ?_ _); rotate_left 1; (focus (first | omega | (simp; done) | (simp; omega)))) | (with_reducible refine Below.drew ?_) | ((with_reducible refine Below.setCell ?_ ?_ _); rotate_left 1; (focus (first | omega | (simp; done) | (simp; omega)))))); exact Below.refl _ _))
  replace HB := Lib.hid (below_then HB.out hbn HB.out.size)
  replace HOR := Lib.hid (HOR.out.below hbn)
  replace HOH := Lib.hid (HOH.out.below hbn)
  replace HXb := Lib.hid (HXb.out.below hbn)
  clear hxb hfb hkb
  have hxb := HXb.out.2.1
  have hfb := HXb.out.2.2
  have hkb := HXb.out.1
  replace HXr := Lib.hid (HXr.out.below hbn)
  clear hxr hfr hkr
  have hxr := HXr.out.2.1
  have hfr := HXr.out.2.2
  have hkr := HXr.out.1
  replace HXt := Lib.hid (HXt.out.below hbn)
  clear hxt hft hkt
  have hxt := HXt.out.2.1
  have hft := HXt.out.2.2
  have hkt := HXt.out.1
  clear hbn
  clear hw
  refine bodyPost_ret (v := .tuple #[.int .i64 0, .slice none 0 0, .int .i64 3]) (by simp [results, Tryz.results47, go_sem]) rfl ?_
  rw [HEQ.out.1, HEQ.out.2.1, HEQ.out.2.2]
  exact au_none _ _ HB.out 3
 have HEQ := Lib.hid (HINN.out k hq)
 subst hq
 have hq2 : ((takenM width rs).take m).length = m := by rw [List.length_take, HW.out.2.2.1]; omega
 have ha2 := areH_sub HW.out.2.1 (fun s hs => List.mem_of_mem_take hs : ∀ s ∈ (takenM width rs).take m, s ∈ takenM width rs)
 have HIN := Lib.hid (fun W X d1 (r : Rd W 0 W.heap.size X (strs ((takenM width rs).take m))) (hd : m ≤ d1) => inclusion_c width HW.out.1 513 X d1 0 W.heap.size m k ((takenM width rs).take m) W r hq2 (by omega) (by omega) hd ha2 hkm)
 have HLV2 := Lib.hid (fun W (q : NewBox W p [.int .i64 width, .slice E ne ce, .slice R nr cr, .slice H nh ch, .int .i64 z1, .slice A1 m1 c1, .int .i64 z2, .slice A2 m2 c2, .int .i64 h.num, .int .i64 h.size, .string h.root, .int .i64 h.taken, .string h.troot]) (r : Rd W 0 W.heap.size R (rcps rs)) => HTK.out W m q r hmn)
 clear hq2 ha2 HTK HW HOUT HINN HTWO hpr
 generalize incFu width 513 ((takenM width rs).take m) k = il at *
 generalize (takenM width rs).take m = lt at *
 go_wp2
 go_wp2_with fail
 refine wp_named (fun w4 hw => ?_)
 have hz4 : wL.heap.size + 0 ≤ w4.heap.size := by rw [hw]; first | omega | (simp [World.setCell]; done) | (simp [World.setCell]; omega)
 have hzz4 : w.heap.size ≤ w4.heap.size := by omega
 have hbn : Below wL.heap.size wL w4 := by rw [hw]; exact (by ((repeat (first | ((with_reducible refine Below.alloc ?_ ?_ _); rotate_left 1; (focus (first | omega | (simp; done) | (simp; omega)))) | (with_reducible refine Below.drew ?_) | ((with_reducible refine Below.setCell ?_ ?_ _); rotate_left 1; (focus (first | omega | (simp; done) | (simp; omega)))))); exact Below.refl _ _))
 replace HB := Lib.hid (below_then HB.out hbn HB.out.size)
 replace HOR := Lib.hid (HOR.out.below hbn)
 replace HOH := Lib.hid (HOH.out.below hbn)
 replace HXb := Lib.hid (HXb.out.below hbn)
 clear hxb hfb hkb
 have hxb := HXb.out.2.1
 have hfb := HXb.out.2.2
 have hkb := HXb.out.1
 replace HXr := Lib.hid (HXr.out.below hbn)
 clear hxr hfr hkr
 have hxr := HXr.out.2.1
 have hfr := HXr.out.2.2
 have hkr := HXr.out.1
 replace HXt := Lib.hid (HXt.out.below hbn)
 clear hxt hft hkt
 have hxt := HXt.out.2.1
 have hft := HXt.out.2.2
 have hkt := HXt.out.1
 clear hbn
 clear hw
 obtain ⟨F, HF⟩ : ∃ F : Facts, Hid (F = fun iq xq tqs dsq uq => match iq with
  | 0 => xq.v = .int .i64 (k : Nat)
  | 1 => xq.v = .pointer (some ⟨p, 0, none⟩)
  | 2 => xq.v = .pointer (some ⟨p, 0, none⟩)
  | 3 => xq.v = .pointer (some ⟨p, 0, none⟩)
  | 4 => xq.v = .int .i64 width
  | 5 => xq.v = .pointer (some ⟨p, 0, none⟩)
  | 6 => xq.v = .int .i64 (m : Nat)
  | 7 => ∃ (X1 : Option Addr) (d1 : Nat), xq.v = .slice X1 m d1 ∧ (RowB uq xq.s xq.e (.slice X1 m d1, m) (strs lt))
  | 8 => xq.v = .int .i64 (k : Nat)
  | 9 => ∃ (X3 : Option Addr) (d3 : Nat), xq.v = .slice X3 il.length d3 ∧ (RowB uq xq.s xq.e (.slice X3 il.length d3, il.length) (strs il))
  | 10 => xq.v = .int .i64 (k : Nat)
  | 11 => (match tqs, dsq with | [], [yq0] => ∃ (X3 : Option Addr) (d3 : Nat), yq0.v = .slice X3 il.length d3 ∧ xq.v = .slice X3 il.length d3 | _, _ => False)
  | 12 => xq.v = .int .i64 0
  | _ => False) := ⟨_, rfl⟩
 refine wp_region_facts [[], [], [], [], [], [], [], [], [], [], [], [9], []] [[], [], [], [], [], [], [], [], [], [], [], [], []] [some 29, some 30, some 31, some 32, some 33, some 34, some 35, some 36, some 37, some 38, some 6, some 7, some 8] none 0 0 (.inl rfl) F (by kernel_rfl) (by kernel_rfl) (by kernel_rfl) ?_ ⟨?_, ?_, ?_, ?_, ?_, ?_, ?_, ?_, ?_, ?_, ?_, ?_, ?_, trivial⟩ ?_
 ·rw [HF.out]; intro iq xq tqs dsq uq u' hi hf hs hW hx hbk
  have kx : ∀ b, xq.s ≤ b → b < xq.e → u'.heap[b]? = uq.heap[b]? := fun b h1 h2 => hbk b (.inr (.inl ⟨h1, h2⟩))
  have kt : ∀ t ∈ tqs, ∀ b, t.s ≤ b → b < t.e → u'.heap[b]? = uq.heap[b]? := fun t ht b h1 h2 => hbk b (.inr (.inr ⟨t, ht, h1, h2⟩))
  match iq with
  | 0 => exact hf
  | 1 => exact hf
  | 2 => exact hf
  | 3 => exact hf
  | 4 => exact hf
  | 5 => exact hf
  | 6 => exact hf
  | 7 => obtain ⟨X1, d1, hv, p0⟩ := hf; exact ⟨X1, d1, hv, p0.keep (fun k _ h1 h2 => kx k h1 h2)⟩
  | 8 => exact hf
  | 9 => obtain ⟨X3, d3, hv, p0⟩ := hf; exact ⟨X3, d3, hv, p0.keep (fun k _ h1 h2 => kx k h1 h2)⟩
  | 10 => exact hf
  | 11 => exact hf
  | 12 => exact hf
 ·intro gh ρ u hc hf1 hg1 hd h0 hb he ha hF
  have r10 : ρ (.tmp 10) = .int .i64 (k : Nat) := (h0 10 (by decide +kernel)).trans rfl
  clear  hd h0 he ha hF
  go_simp
  rw [HF.out]
  exact ⟨OnlyL.refl _ _, rfl⟩
 ·intro gh ρ u hc hf1 hg1 hd h0 hb he ha hF
  have r0 : ρ (.tmp 0) = .pointer (some ⟨p, 0, none⟩) := (h0 0 (by decide +kernel)).trans rfl
  clear  hd h0 he ha hF
  go_simp
  rw [HF.out]
  exact ⟨OnlyL.refl _ _, rfl⟩
 ·intro gh ρ u hc hf1 hg1 hd h0 hb he ha hF
  have r30 : ρ (.tmp 30) = .pointer (some ⟨p, 0, none⟩) := by have h := hF 1 (by decide +kernel) (by decide +kernel); rw [HF.out] at h; exact (hd 1 (by decide +kernel) 30 (by kernel_rfl)).trans h
  clear  hd h0 he ha hF
  go_simp
  rw [HF.out]
  exact ⟨OnlyL.refl _ _, rfl⟩
 ·intro gh ρ u hc hf1 hg1 hd h0 hb he ha hF
  have r31 : ρ (.tmp 31) = .pointer (some ⟨p, 0, none⟩) := by have h := hF 2 (by decide +kernel) (by decide +kernel); rw [HF.out] at h; exact (hd 2 (by decide +kernel) 31 (by kernel_rfl)).trans h
  clear  hd h0 he ha hF
  go_simp
  rw [HF.out]
  exact ⟨OnlyL.refl _ _, rfl⟩
 ·intro gh ρ u hc hf1 hg1 hd h0 hb he ha hF
  replace hb : Below w4.heap.size w4 u := hb.drew.below (by decide +kernel)
  have hbz : w4.heap.size ≤ u.heap.size := hb.size
  have r32 : ρ (.tmp 32) = .pointer (some ⟨p, 0, none⟩) := by have h := hF 3 (by decide +kernel) (by decide +kernel); rw [HF.out] at h; exact (hd 3 (by decide +kernel) 32 (by kernel_rfl)).trans h
  have q_b := (HXb.out.below hb).2.1
  have k_b : p < u.heap.size := by have := HXb.out.1; omega
  have q_t := (HXt.out.below hb).2.1
  have k_t : w.heap.size + 1 < u.heap.size := by have := HXt.out.1; omega
  clear  hd h0 he ha hF
  go_simp
  rw [HF.out]
  exact ⟨OnlyL.refl _ _, rfl⟩
 ·intro gh ρ u hc hf1 hg1 hd h0 hb he ha hF
  have r0 : ρ (.tmp 0) = .pointer (some ⟨p, 0, none⟩) := (h0 0 (by decide +kernel)).trans rfl
  clear  hd h0 he ha hF
  go_simp
  rw [HF.out]
  exact ⟨OnlyL.refl _ _, rfl⟩
 ·intro gh ρ u hc hf1 hg1 hd h0 hb he ha hF
  replace hb : Below w4.heap.size w4 u := hb.drew.below (by decide +kernel)
  have hbz : w4.heap.size ≤ u.heap.size := hb.size
  have r5 : ρ (.tmp 5) = .pointer (some ⟨w.heap.size + 1, 0, none⟩) := (h0 5 (by decide +kernel)).trans rfl
  have q_b := (HXb.out.below hb).2.1
  have k_b : p < u.heap.size := by have := HXb.out.1; omega
  have q_t := (HXt.out.below hb).2.1
  have k_t : w.heap.size + 1 < u.heap.size := by have := HXt.out.1; omega
  clear  hd h0 he ha hF
  go_simp
  rw [HF.out]
  exact ⟨OnlyL.refl _ _, rfl⟩
 ·intro gh ρ u hc hf1 hg1 hd h0 hb he ha hF
  replace hb : Below w4.heap.size w4 u := hb.drew.below (by decide +kernel)
  have hbz : w4.heap.size ≤ u.heap.size := hb.size
  have r34 : ρ (.tmp 34) = .pointer (some ⟨p, 0, none⟩) := by have h := hF 5 (by decide +kernel) (by decide +kernel); rw [HF.out] at h; exact (hd 5 (by decide +kernel) 34 (by kernel_rfl)).trans h
  have r35 : ρ (.tmp 35) = .int .i64 (m : Nat) := by have h := hF 6 (by decide +kernel) (by decide +kernel); rw [HF.out] at h; exact (hd 6 (by decide +kernel) 35 (by kernel_rfl)).trans h
  clear  hd h0 he ha hF
  go_simp
  have q_b := (HXb.out.below hb)
  have q_t := (HXt.out.below hb)
  refine (HLV2.out _ q_b (HOR.out.below hb).base).mono ?_
  rintro e u1 ⟨X1, d1, rfl, ho, hb1⟩
  rw [HF.out]
  exact ⟨_, rfl, OnlyL.of_below hb1, X1, d1, rfl, RowB.of ho⟩
 ·intro gh ρ u hc hf1 hg1 hd h0 hb he ha hF
  have r10 : ρ (.tmp 10) = .int .i64 (k : Nat) := (h0 10 (by decide +kernel)).trans rfl
  clear  hd h0 he ha hF
  go_simp
  rw [HF.out]
  exact ⟨OnlyL.refl _ _, rfl⟩
 ·intro gh ρ u hc hf1 hg1 hd h0 hb he ha hF
  replace hb : Below w4.heap.size w4 u := hb.drew.below (by decide +kernel)
  have hbz : w4.heap.size ≤ u.heap.size := hb.size
  have r33 : ρ (.tmp 33) = .int .i64 width := by have h := hF 4 (by decide +kernel) (by decide +kernel); rw [HF.out] at h; exact (hd 4 (by decide +kernel) 33 (by kernel_rfl)).trans h
  have f7 : ∃ (X1 : Option Addr) (d1 : Nat), (gh 7).v = .slice X1 m d1 ∧ (RowB u (gh 7).s (gh 7).e (.slice X1 m d1, m) (strs lt)) := by have h := hF 7 (by decide +kernel) (by decide +kernel); rw [HF.out] at h; exact h
  obtain ⟨X1, d1, hv7, g7_0⟩ := f7
  have r36 : ρ (.tmp 36) = .slice X1 m d1 := (hd 7 (by decide +kernel) 36 (by kernel_rfl)).trans hv7
  have r37 : ρ (.tmp 37) = .int .i64 (k : Nat) := by have h := hF 8 (by decide +kernel) (by decide +kernel); rw [HF.out] at h; exact (hd 8 (by decide +kernel) 37 (by kernel_rfl)).trans h
  clear hv7 hd h0 he ha hF
  go_simp
  have q_b := (HXb.out.below hb)
  have q_t := (HXt.out.below hb)
  refine (HIN.out _ _ _ (Own.of_ownsRow g7_0.1).rd.base (row_cap g7_0.1)).mono ?_
  rintro e u1 ⟨X3, d3, rfl, ho, hb1⟩
  rw [HF.out]
  exact ⟨_, rfl, OnlyL.of_below hb1, X3, d3, rfl, RowB.of ho⟩
 ·intro gh ρ u hc hf1 hg1 hd h0 hb he ha hF
  have r29 : ρ (.tmp 29) = .int .i64 (k : Nat) := by have h := hF 0 (by decide +kernel) (by decide +kernel); rw [HF.out] at h; exact (hd 0 (by decide +kernel) 29 (by kernel_rfl)).trans h
  clear  hd h0 he ha hF
  go_simp
  rw [HF.out]
  exact ⟨OnlyL.refl _ _, rfl⟩
 ·intro gh ρ u hc hf1 hg1 hd h0 hb he ha hF
  have f9 : ∃ (X3 : Option Addr) (d3 : Nat), (gh 9).v = .slice X3 il.length d3 ∧ (RowB u (gh 9).s (gh 9).e (.slice X3 il.length d3, il.length) (strs il)) := by have h := hF 9 (by decide +kernel) (by decide +kernel); rw [HF.out] at h; exact h
  obtain ⟨X3, d3, hv9, g9_0⟩ := f9
  have hrt9 := hv9
  have r38 : ρ (.tmp 38) = .slice X3 il.length d3 := (hd 9 (by decide +kernel) 38 (by kernel_rfl)).trans hv9
  have HRT9 := Lib.hid hrt9
  clear hv9 hrt9 hd h0 he ha hF
  go_simp
  rw [HF.out]
  exact ⟨OnlyL.refl _ _, X3, d3, HRT9.out, rfl⟩
 ·intro gh ρ u hc hf1 hg1 hd h0 hb he ha hF
  clear  hd h0 he ha hF
  go_simp
  rw [HF.out]
  exact ⟨OnlyL.refl _ _, rfl⟩
 intro gh w5 hB hE hA hF
 replace hB : Below w4.heap.size w4 w5 := hB.below rfl
 have f0 : (gh 0).v = .int .i64 (k : Nat) := by have h := hF 0 (by decide +kernel) (by decide +kernel); rw [HF.out] at h; exact h
 have f1 : (gh 1).v = .pointer (some ⟨p, 0, none⟩) := by have h := hF 1 (by decide +kernel) (by decide +kernel); rw [HF.out] at h; exact h
 have f2 : (gh 2).v = .pointer (some ⟨p, 0, none⟩) := by have h := hF 2 (by decide +kernel) (by decide +kernel); rw [HF.out] at h; exact h
 have f3 : (gh 3).v = .pointer (some ⟨p, 0, none⟩) := by have h := hF 3 (by decide +kernel) (by decide +kernel); rw [HF.out] at h; exact h
 have f4 : (gh 4).v = .int .i64 width := by have h := hF 4 (by decide +kernel) (by decide +kernel); rw [HF.out] at h; exact h
 have f5 : (gh 5).v = .pointer (some ⟨p, 0, none⟩) := by have h := hF 5 (by decide +kernel) (by decide +kernel); rw [HF.out] at h; exact h
 have f6 : (gh 6).v = .int .i64 (m : Nat) := by have h := hF 6 (by decide +kernel) (by decide +kernel); rw [HF.out] at h; exact h
 have f7 : ∃ (X1 : Option Addr) (d1 : Nat), (gh 7).v = .slice X1 m d1 ∧ (RowB w5 (gh 7).s (gh 7).e (.slice X1 m d1, m) (strs lt)) := by have h := hF 7 (by decide +kernel) (by decide +kernel); rw [HF.out] at h; exact h
 have f8 : (gh 8).v = .int .i64 (k : Nat) := by have h := hF 8 (by decide +kernel) (by decide +kernel); rw [HF.out] at h; exact h
 have f9 : ∃ (X3 : Option Addr) (d3 : Nat), (gh 9).v = .slice X3 il.length d3 ∧ (RowB w5 (gh 9).s (gh 9).e (.slice X3 il.length d3, il.length) (strs il)) := by have h := hF 9 (by decide +kernel) (by decide +kernel); rw [HF.out] at h; exact h
 have f10 : (gh 10).v = .int .i64 (k : Nat) := by have h := hF 10 (by decide +kernel) (by decide +kernel); rw [HF.out] at h; exact h
 have f11 : ∃ (X3 : Option Addr) (d3 : Nat), (gh 9).v = .slice X3 il.length d3 ∧ (gh 11).v = .slice X3 il.length d3 := by have h := hF 11 (by decide +kernel) (by decide +kernel); rw [HF.out] at h; exact h
 have f12 : (gh 12).v = .int .i64 0 := by have h := hF 12 (by decide +kernel) (by decide +kernel); rw [HF.out] at h; exact h
 obtain ⟨X1, d1, hv7, _⟩ := f7
 obtain ⟨X3, d3, hv9, hr3⟩ := f9
 have hv0 := f0
 have hv1 := f1
 have hv2 := f2
 have hv3 := f3
 have hv4 := f4
 have hv5 := f5
 have hv6 := f6
 have hv8 := f8
 have hv10 := f10
 obtain ⟨X3_11, d3_11, hu9, hv11⟩ := f11
 replace hu9 := hv9.symm.trans hu9
 simp at hu9
 try simp only [and_assoc] at hu9
 obtain ⟨rfl, rfl⟩ := hu9
 have hv12 := f12
 obtain ⟨hs9, hse9, he9⟩ := hE 9 (by decide +kernel)
 change w4.heap.size ≤ _ at hs9
 clear hE hA hF
 simp only [putDs, Nat.reduceAdd, hv0, hv1, hv2, hv3, hv4, hv5, hv6, hv7, hv8, hv9, hv10, hv11, hv12]
 clear hv0 hv1 hv2 hv3 hv4 hv5 hv6 hv7 hv8 hv9 hv10 hv11 hv12
 generalize (gh 9).s = s5_9 at *
 generalize (gh 9).e = e5_9 at *
 clear HF
 have hb := hB
 clear hB
 have hzw5 : w4.heap.size ≤ w5.heap.size := hb.size
 have hzzw5 : w.heap.size ≤ w5.heap.size := by omega
 replace HB := Lib.hid (below_then HB.out hb HB.out.size)
 replace HOR := Lib.hid (HOR.out.below hb)
 replace HOH := Lib.hid (HOH.out.below hb)
 replace HXb := Lib.hid (HXb.out.below hb)
 clear hxb hfb hkb
 have hxb := HXb.out.2.1
 have hfb := HXb.out.2.2
 have hkb := HXb.out.1
 replace HXr := Lib.hid (HXr.out.below hb)
 clear hxr hfr hkr
 have hxr := HXr.out.2.1
 have hfr := HXr.out.2.2
 have hkr := HXr.out.1
 replace HXt := Lib.hid (HXt.out.below hb)
 clear hxt hft hkt
 have hxt := HXt.out.2.1
 have hft := HXt.out.2.2
 have hkt := HXt.out.1
 clear hb
 have HOU : Hid (RowB w5 (s5_9) (e5_9) ((.slice X3 il.length d3, il.length)) (strs il)) := hr3
 have hr39 : e5_9 ≤ w5.heap.size ∧ w.heap.size ≤ s5_9 ∧ s5_9 ≤ e5_9 := by omega
 clear hr3 HLV2 HIN
 go_wp2
 refine bodyPost_named (fun w6 hw => ?_)
 have hz6 : w5.heap.size + 0 ≤ w6.heap.size := by rw [hw]; first | omega | (simp [World.setCell]; done) | (simp [World.setCell]; omega)
 have hzz6 : w.heap.size ≤ w6.heap.size := by omega
 have hbn : Below w5.heap.size w5 w6 := by rw [hw]; exact (by ((repeat (first | ((with_reducible refine Below.alloc ?_ ?_ _); rotate_left 1; (focus (first | omega | (simp; done) | (simp; omega)))) | (with_reducible refine Below.drew ?_) | ((with_reducible refine Below.setCell ?_ ?_ _); rotate_left 1; (focus (first | omega | (simp; done) | (simp; omega)))))); exact Below.refl _ _))
 replace HB := Lib.hid (below_then HB.out hbn HB.out.size)
 replace HOR := Lib.hid (HOR.out.below hbn)
 replace HOH := Lib.hid (HOH.out.below hbn)
 replace HOU := Lib.hid (HOU.out.below hbn)
 replace HXb := Lib.hid (HXb.out.below hbn)
 clear hxb hfb hkb
 have hxb := HXb.out.2.1
 have hfb := HXb.out.2.2
 have hkb := HXb.out.1
 replace HXr := Lib.hid (HXr.out.below hbn)
 clear hxr hfr hkr
 have hxr := HXr.out.2.1
 have hfr := HXr.out.2.2
 have hkr := HXr.out.1
 replace HXt := Lib.hid (HXt.out.below hbn)
 clear hxt hft hkt
 have hxt := HXt.out.2.1
 have hft := HXt.out.2.2
 have hkt := HXt.out.1
 clear hbn
 clear hw
 refine bodyPost_ret (v := .tuple #[.int .i64 (k : Nat), .slice X3 il.length d3, .int .i64 0]) (by simp [results, Tryz.results47, go_sem]) rfl ?_
 rw [HEQ.out.1, HEQ.out.2.1, HEQ.out.2.2]
 exact ⟨⟨X3, d3, rfl, (HOU.out.ownB rfl (by omega) (by omega)).mono (by omega) (by omega) (by omega)⟩, HB.out⟩
set_option maxRecDepth 100000 in
set_option maxHeartbeats 4000000 in
theorem l12Audit_c (width z1 z2 : Int) (E R H A1 A2 : Option Addr) (ne nr nh ce cr ch c1 c2 lo2 hi2 lo3 hi3 m1 m2 : Nat) (es : List Ent) (rs : List Rcp) (hs : List Hd) (h : Hd) (r : Rcp) (c : Int) (w : World)
  (hR : Rd w lo2 hi2 R (rcps rs)) (hH : Rd w lo3 hi3 H (hds hs)) (hnr : rs.length = nr) (hnh : hs.length = nh) (b2 : nr ≤ 1048576) (b3 : nh ≤ 1048576) (b7 : nr ≤ cr) (hfr : ∀ x ∈ rs, x.fits) (hrf : r.fits) (hp : BrkParts width es rs hs) :
  Calls Tryz.prog 42 #[.agg #[.int .i64 width, .slice E ne ce, .slice R nr cr, .slice H nh ch, .int .i64 z1, .slice A1 m1 c1, .int .i64 z2, .slice A2 m2 c2, .int .i64 h.num, .int .i64 h.size, .string h.root, .int .i64 h.taken, .string h.troot], .agg #[.string r.reader, .string r.topic, .int .i64 r.index], .int .i64 c] w (AuPost w (auZ rs hs r c) (auL width rs hs r c) (auC rs hs r c)) := by
 have HLE := Lib.hid (fun (hq : hasTk hs c = true) => tk_le hp hq)
 have HNO := Lib.hid (fun (hq : hasTk hs c = false) => au_no (r := r) width rs hq)
 have hta := takenM_are hp.wd hp.rcps
 have htl := (takenM_len width rs).trans hnr
 have h52 : nr ≤ 512 := by rw [← hnr]; exact rcpsOk_len hp.rcps
 have HW := Lib.hid (And.intro hp.wd (And.intro hta (And.intro htl hnr)))
 have HNH := Lib.hid hnh
 have HIX := Lib.hid (fun W m (q : Rd W 0 W.heap.size R (rcps rs)) (hm : m ≤ nr) => l12At_c R cr 0 W.heap.size m (rs.take m) r W (q.rcpsTake m) (by rw [List.length_take]; omega) (by omega) (fun x hx => hfr x (List.mem_of_mem_take hx)) hrf)
 have HTK := Lib.hid (fun W m (r : Rd W 0 W.heap.size R (rcps rs)) (hm : m ≤ nr) => l12Taken_c width R cr 0 W.heap.size m (rs.take m) W (r.rcpsTake m) (by rw [List.length_take]; omega) (by omega) (fun x hx => hfr x (List.mem_of_mem_take hx)))
 have HB : Hid (Below w.heap.size w w) := Below.refl _ _
 have HOR : Hid (Rd w (0) (w.heap.size) (R) (rcps rs)) := Rd.base hR
 have HOH : Hid (Rd w (0) (w.heap.size) (H) (hds hs)) := Rd.base hH
 clear hR hH hnr hnh hfr hrf hp hta htl
 go_enter Tryz.func42, Tryz.ntmps42
 go_wp2_with fail
 refine wp_named (fun w1 hw => ?_)
 have hz1 : w.heap.size + 2 ≤ w1.heap.size := by rw [hw]; first | omega | (simp [World.setCell]; done) | (simp [World.setCell]; omega)
 have hzz1 : w.heap.size ≤ w1.heap.size := by omega
 have hbn : Below w.heap.size w w1 := by rw [hw]; exact (by ((repeat (first | ((with_reducible refine Below.alloc ?_ ?_ _); rotate_left 1; (focus (first | omega | (simp; done) | (simp; omega)))) | (with_reducible refine Below.drew ?_) | ((with_reducible refine Below.setCell ?_ ?_ _); rotate_left 1; (focus (first | omega | (simp; done) | (simp; omega)))))); exact Below.refl _ _))
 replace HB := Lib.hid (below_then HB.out hbn HB.out.size)
 replace HOR := Lib.hid (HOR.out.below hbn)
 replace HOH := Lib.hid (HOH.out.below hbn)
 clear hbn
 have HXb : Hid (NewBox w1 (w.heap.size) [.int .i64 width, .slice E ne ce, .slice R nr cr, .slice H nh ch, .int .i64 z1, .slice A1 m1 c1, .int .i64 z2, .slice A2 m2 c2, .int .i64 h.num, .int .i64 h.size, .string h.root, .int .i64 h.taken, .string h.troot]) := by rw [Hid, hw]; exact ⟨by first | omega | (simp [World.setCell]; done) | (simp [World.setCell]; omega), fun o => by rcases o with _ | _ | _ | _ | _ | _ | _ | _ | _ | _ | _ | _ | _ | o <;> go_simp, fun o => by go_simp⟩
 have hxb := HXb.out.2.1
 have hfb := HXb.out.2.2
 have hkb := HXb.out.1
 have HXr : Hid (NewBox w1 (w.heap.size + 1) [.string r.reader, .string r.topic, .int .i64 r.index]) := by rw [Hid, hw]; exact ⟨by first | omega | (simp [World.setCell]; done) | (simp [World.setCell]; omega), fun o => by rcases o with _ | _ | _ | o <;> go_simp, fun o => by go_simp⟩
 have hxr := HXr.out.2.1
 have hfr := HXr.out.2.2
 have hkr := HXr.out.1
 clear hw
 go_loopw [9, 10] (fun f i wr => ∃ k : Nat, k ≤ nh ∧ i = .int .i64 k ∧ f = .bool ((hs.take k).any (fun x => x.taken == c)) ∧ Below w1.heap.size w1 wr) (fun _ i _ => nh - (intOf i).toNat)
 case atStart => exact ⟨0, Nat.zero_le _, rfl, rfl, Below.refl _ _⟩
 case round =>
  obtain ⟨k, hk, rfl, rfl, hbr⟩ := hrel
  have hbr9 := hbr
  have hzwr : w1.heap.size ≤ wr.heap.size := hbr.size
  have hzzwr : w.heap.size ≤ wr.heap.size := by omega
  replace HB := Lib.hid (below_then HB.out hbr HB.out.size)
  replace HOR := Lib.hid (HOR.out.below hbr)
  replace HOH := Lib.hid (HOH.out.below hbr)
  replace HXb := Lib.hid (HXb.out.below hbr)
  clear hxb hfb hkb
  have hxb := HXb.out.2.1
  have hfb := HXb.out.2.2
  have hkb := HXb.out.1
  replace HXr := Lib.hid (HXr.out.below hbr)
  clear hxr hfr hkr
  have hxr := HXr.out.2.1
  have hfr := HXr.out.2.2
  have hkr := HXr.out.1
  clear hbr
  have HBR := Lib.hid hbr9
  clear hbr9
  by_cases hlt : k < nh
  ·obtain ⟨b2, off, x, hRe, hb2, hx, hc⟩ := hd_cells HOH.out (k := k) (by rw [HNH.out]; exact hlt)
   have hc3 := hc.2.2.2.1
   have hix := idxHd H b2 off nh ch k hRe hlt
   have hI : (k : Int) < nh := by omega
   have HS := Lib.hid (any_take (p := fun x => x.taken == c) hx)
   clear hc hx hRe
   generalize (hs.take k).any (fun x => x.taken == c) = u at *
   rcases u with _ | _
   ·go_wp2
    go_roundw
    case rel => exact ⟨k + 1, by omega, by go_num, by rw [HS.out, Bool.false_or], HBR.out⟩
    case measure => simp [intOf]; omega
   ·go_wp2
    go_roundw
    case rel => exact ⟨k + 1, by omega, by go_num, by rw [HS.out, Bool.true_or], HBR.out⟩
    case measure => simp [intOf]; omega
  obtain rfl : nh = k := by omega
  rw [show (hs.take nh).any (fun x => x.taken == c) = hasTk hs c by rw [List.take_of_length_le (by rw [HNH.out]; exact Nat.le_refl _)]; rfl]
  rcases hq1 : hasTk hs c with _ | _
  ·have HEQ := Lib.hid (HNO.out hq1)
   clear HNO HLE hq1 HTK HW HIX
   go_wp2
   refine bodyPost_named (fun w2 hw => ?_)
   have hz2 : wr.heap.size + 1 ≤ w2.heap.size := by rw [hw]; first | omega | (simp [World.setCell]; done) | (simp [World.setCell]; omega)
   have hzz2 : w.heap.size ≤ w2.heap.size := by omega
   have hbn : Below wr.heap.size wr w2 := by rw [hw]; exact (by ((repeat (first | ((with_reducible refine Below.alloc ?_ ?_ _); rotate_left 1; (focus (first | omega | (simp; done) | (simp; omega)))) | (with_reducible refine Below.drew ?_) | ((with_reducible refine Below.setCell ?_ ?_ _); rotate_left 1; (focus (first | omega | (simp; done) | (simp; omega)))))); exact Below.refl _ _))
   replace HB := Lib.hid (below_then HB.out hbn HB.out.size)
   replace HOR := Lib.hid (HOR.out.below hbn)
   replace HOH := Lib.hid (HOH.out.below hbn)
   replace HXb := Lib.hid (HXb.out.below hbn)
   clear hxb hfb hkb
   have hxb := HXb.out.2.1
   have hfb := HXb.out.2.2
   have hkb := HXb.out.1
   replace HXr := Lib.hid (HXr.out.below hbn)
   clear hxr hfr hkr
   have hxr := HXr.out.2.1
   have hfr := HXr.out.2.2
   have hkr := HXr.out.1
   clear hbn
   have HXe1 : Hid (NewBox w2 (wr.heap.size) []) := by rw [Hid, hw]; exact ⟨by first | omega | (simp [World.setCell]; done) | (simp [World.setCell]; omega), fun o => by rcases o with o <;> go_simp, fun o => by go_simp⟩
   have hxe1 := HXe1.out.2.1
   have hfe1 := HXe1.out.2.2
   have hke1 := HXe1.out.1
   clear hw
   refine bodyPost_ret (v := .tuple #[.int .i64 0, .slice (some ⟨wr.heap.size, 0, none⟩) 0 0, .int .i64 2]) (by simp [results, Tryz.results42, go_sem]) rfl ?_
   rw [HEQ.out.1, HEQ.out.2.1, HEQ.out.2.2]
   exact au_none _ _ HB.out 2
  have hle := HLE.out hq1
  obtain ⟨m, rfl⟩ : ∃ m : Nat, c = m := ⟨c.toNat, by omega⟩
  have hmn : m ≤ nr := by have := HW.out.2.2.2; omega
  have HOUT := Lib.hid (fun (hk : auI rs r m < 0) => au_out width hq1 hk)
  have HINN := Lib.hid (fun (k : Nat) (hk : auI rs r m = k) => au_in width hq1 hk)
  have HTWO := Lib.hid (auI_two rs r m)
  have hix2 := fun W (q : Rd W 0 W.heap.size R (rcps rs)) => HIX.out W m q hmn
  rw [show rcpPos r (rs.take m) 0 = auI rs r m by rw [auI, Int.toNat_natCast]] at hix2
  have HIX2 := Lib.hid hix2
  clear hix2 HIX HNO HLE hq1 hle
  have hpr := slicePreR R nr cr m (by omega)
  go_wp2_with fail
  refine wp_named (fun w2 hw => ?_)
  have hz2 : wr.heap.size + 0 ≤ w2.heap.size := by rw [hw]; first | omega | (simp [World.setCell]; done) | (simp [World.setCell]; omega)
  have hzz2 : w.heap.size ≤ w2.heap.size := by omega
  have hbn : Below wr.heap.size wr w2 := by rw [hw]; exact (by ((repeat (first | ((with_reducible refine Below.alloc ?_ ?_ _); rotate_left 1; (focus (first | omega | (simp; done) | (simp; omega)))) | (with_reducible refine Below.drew ?_) | ((with_reducible refine Below.setCell ?_ ?_ _); rotate_left 1; (focus (first | omega | (simp; done) | (simp; omega)))))); exact Below.refl _ _))
  replace HB := Lib.hid (below_then HB.out hbn HB.out.size)
  replace HOR := Lib.hid (HOR.out.below hbn)
  replace HOH := Lib.hid (HOH.out.below hbn)
  replace HXb := Lib.hid (HXb.out.below hbn)
  clear hxb hfb hkb
  have hxb := HXb.out.2.1
  have hfb := HXb.out.2.2
  have hkb := HXb.out.1
  replace HXr := Lib.hid (HXr.out.below hbn)
  clear hxr hfr hkr
  have hxr := HXr.out.2.1
  have hfr := HXr.out.2.2
  have hkr := HXr.out.1
  clear hbn
  clear hw
  have HL := Lib.hid (fun v : Later w2 => HIX2.out v.v (HOR.out.below v.h).base)
  have E1 : (m : Int) ≤ cr := by omega
  have l2 : ∀ v : Later w2, v.v.cell? ⟨(w.heap.size), 2, none⟩ = some (.slice R nr cr) := fun v => (later_cell v _ _ hkb).trans (hxb 2)
  have l3 : ∀ v : Later w2, v.v.cell? ⟨(w.heap.size + 1), 0, none⟩ = some (.string r.reader) := fun v => (later_cell v _ _ hkr).trans (hxr 0)
  have l4 : ∀ v : Later w2, v.v.cell? ⟨(w.heap.size + 1), 1, none⟩ = some (.string r.topic) := fun v => (later_cell v _ _ hkr).trans (hxr 1)
  have l5 : ∀ v : Later w2, v.v.cell? ⟨(w.heap.size + 1), 2, none⟩ = some (.int .i64 r.index) := fun v => (later_cell v _ _ hkr).trans (hxr 2)
  generalize auI rs r m = q at *
  refine wp_region_later (by kernel_rfl) (by kernel_rfl) ?_
  repeat (go_big_quiet_step ((with_reducible exact later_call (HL.out _))))
  refine wpQuiet_nil ?_
  intro wL h9
  have hb9 := later_below h9
  have hzwL : w2.heap.size ≤ wL.heap.size := hb9.size
  have hzzwL : w.heap.size ≤ wL.heap.size := by omega
  replace HB := Lib.hid (below_then HB.out hb9 HB.out.size)
  replace HOR := Lib.hid (HOR.out.below hb9)
  replace HOH := Lib.hid (HOH.out.below hb9)
  replace HXb := Lib.hid (HXb.out.below hb9)
  clear hxb hfb hkb
  have hxb := HXb.out.2.1
  have hfb := HXb.out.2.2
  have hkb := HXb.out.1
  replace HXr := Lib.hid (HXr.out.below hb9)
  clear hxr hfr hkr
  have hxr := HXr.out.2.1
  have hfr := HXr.out.2.2
  have hkr := HXr.out.1
  clear l2 l3 l4 l5 h9 hb9 HL HIX2
  rcases HTWO.out with hq | ⟨k, hkm, hq⟩
  ·have HEQ := Lib.hid (HOUT.out (by omega))
   have hq0 : q < 0 := by omega
   clear HOUT HINN HTWO hq HTK HW hpr
   go_wp2
   refine bodyPost_named (fun w3 hw => ?_)
   have hz3 : wL.heap.size + 1 ≤ w3.heap.size := by rw [hw]; first | omega | (simp [World.setCell]; done) | (simp [World.setCell]; omega)
   have hzz3 : w.heap.size ≤ w3.heap.size := by omega
   have hbn : Below wL.heap.size wL w3 := by rw [hw]; exact (by ((repeat (first | ((with_reducible refine Below.alloc ?_ ?_ _); rotate_left 1; (focus (first | omega | (simp; done) | (simp; omega)))) | (with_reducible refine Below.drew ?_) | ((with_reducible refine Below.setCell ?_ ?_ _); rotate_left 1; (focus (first | omega | (simp; done) | (simp; omega)))))); exact Below.refl _ _))
   replace HB := Lib.hid (below_then HB.out hbn HB.out.size)
   replace HOR := Lib.hid (HOR.out.below hbn)
   replace HOH := Lib.hid (HOH.out.below hbn)
   replace HXb := Lib.hid (HXb.out.below hbn)
   clear hxb hfb hkb
   have hxb := HXb.out.2.1
   have hfb := HXb.out.2.2
   have hkb := HXb.out.1
   replace HXr := Lib.hid (HXr.out.below hbn)
   clear hxr hfr hkr
   have hxr := HXr.out.2.1
   have hfr := HXr.out.2.2
   have hkr := HXr.out.1
   clear hbn
   have HXe1 : Hid (NewBox w3 (wL.heap.size) []) := by rw [Hid, hw]; exact ⟨by first | omega | (simp [World.setCell]; done) | (simp [World.setCell]; omega), fun o => by rcases o with o <;> go_simp, fun o => by go_simp⟩
   have hxe1 := HXe1.out.2.1
   have hfe1 := HXe1.out.2.2
   have hke1 := HXe1.out.1
   clear hw
   refine bodyPost_ret (v := .tuple #[.int .i64 0, .slice (some ⟨wL.heap.size, 0, none⟩) 0 0, .int .i64 3]) (by simp [results, Tryz.results42, go_sem]) rfl ?_
   rw [HEQ.out.1, HEQ.out.2.1, HEQ.out.2.2]
   exact au_none _ _ HB.out 3
  have HEQ := Lib.hid (HINN.out k hq)
  subst hq
  have hq2 : ((takenM width rs).take m).length = m := by rw [List.length_take, HW.out.2.2.1]; omega
  have ha2 := areH_sub HW.out.2.1 (fun s hs => List.mem_of_mem_take hs : ∀ s ∈ (takenM width rs).take m, s ∈ takenM width rs)
  have HIN := Lib.hid (fun W X d1 (r : Rd W 0 W.heap.size X (strs ((takenM width rs).take m))) (hd : m ≤ d1) => specInclusion_c width HW.out.1 X d1 0 W.heap.size m k ((takenM width rs).take m) W r hq2 (by omega) hd ha2 hkm)
  have hlv := fun W (r : Rd W 0 W.heap.size R (rcps rs)) => HTK.out W m r hmn
  rw [show (rs.take m).map (rcpHashM width) = (takenM width rs).take m from List.map_take] at hlv
  have HLV2 := Lib.hid hlv
  clear hlv hq2 ha2 HTK HW HOUT HINN HTWO
  generalize incFu width 513 ((takenM width rs).take m) k = il at *
  generalize (takenM width rs).take m = lt at *
  go_wp2
  go_wp2_with fail
  refine wp_named (fun w3 hw => ?_)
  have hz3 : wL.heap.size + 0 ≤ w3.heap.size := by rw [hw]; first | omega | (simp [World.setCell]; done) | (simp [World.setCell]; omega)
  have hzz3 : w.heap.size ≤ w3.heap.size := by omega
  have hbn : Below wL.heap.size wL w3 := by rw [hw]; exact (by ((repeat (first | ((with_reducible refine Below.alloc ?_ ?_ _); rotate_left 1; (focus (first | omega | (simp; done) | (simp; omega)))) | (with_reducible refine Below.drew ?_) | ((with_reducible refine Below.setCell ?_ ?_ _); rotate_left 1; (focus (first | omega | (simp; done) | (simp; omega)))))); exact Below.refl _ _))
  replace HB := Lib.hid (below_then HB.out hbn HB.out.size)
  replace HOR := Lib.hid (HOR.out.below hbn)
  replace HOH := Lib.hid (HOH.out.below hbn)
  replace HXb := Lib.hid (HXb.out.below hbn)
  clear hxb hfb hkb
  have hxb := HXb.out.2.1
  have hfb := HXb.out.2.2
  have hkb := HXb.out.1
  replace HXr := Lib.hid (HXr.out.below hbn)
  clear hxr hfr hkr
  have hxr := HXr.out.2.1
  have hfr := HXr.out.2.2
  have hkr := HXr.out.1
  clear hbn
  clear hw
  obtain ⟨F, HF⟩ : ∃ F : Facts, Hid (F = fun iq xq tqs dsq uq => match iq with
   | 0 => xq.v = .pointer (some ⟨(w.heap.size), 0, none⟩)
   | 1 => xq.v = .int .i64 width
   | 2 => xq.v = .pointer (some ⟨(w.heap.size), 0, none⟩)
   | 3 => xq.v = .int .i64 width
   | 4 => xq.v = .pointer (some ⟨(w.heap.size), 2, none⟩)
   | 5 => xq.v = .slice R nr cr
   | 6 => xq.v = .int .i64 (m : Nat)
   | 7 => xq.v = .slice R m cr
   | 8 => ∃ (X1 : Option Addr) (d1 : Nat), xq.v = .slice X1 m d1 ∧ (RowB uq xq.s xq.e (.slice X1 m d1, m) (strs lt))
   | 9 => xq.v = .int .i64 (k : Nat)
   | 10 => ∃ (X3 : Option Addr) (d3 : Nat), xq.v = .tuple #[.slice X3 il.length d3, .bool true] ∧ (RowB uq xq.s xq.e (.slice X3 il.length d3, il.length) (strs il))
   | 11 => (match tqs, dsq with | [], [yq0] => ∃ (X3 : Option Addr) (d3 : Nat), yq0.v = .tuple #[.slice X3 il.length d3, .bool true] ∧ xq.v = .tuple #[.slice X3 il.length d3, .bool true] | _, _ => False)
   | 12 => (match tqs, dsq with | [], [yq0] => ∃ (X3 : Option Addr) (d3 : Nat), yq0.v = .tuple #[.slice X3 il.length d3, .bool true] ∧ xq.v = .slice X3 il.length d3 | _, _ => False)
   | 13 => (match tqs, dsq with | [], [yq0] => ∃ (X3 : Option Addr) (d3 : Nat), yq0.v = .tuple #[.slice X3 il.length d3, .bool true] ∧ xq.v = .bool true | _, _ => False)
   | 14 => (match tqs, dsq with | [], [yq0] => ∃ (X3 : Option Addr) (d3 : Nat), yq0.v = .tuple #[.slice X3 il.length d3, .bool true] ∧ xq.v = .slice X3 il.length d3 | _, _ => False)
   | 15 => (match tqs, dsq with | [], [yq0] => ∃ (X3 : Option Addr) (d3 : Nat), yq0.v = .tuple #[.slice X3 il.length d3, .bool true] ∧ xq.v = .bool true | _, _ => False)
   | _ => False) := ⟨_, rfl⟩
  refine wp_region_facts [[], [], [], [], [], [], [], [], [], [], [], [10], [10], [10], [10], [10]] [[], [], [], [], [], [], [], [], [], [], [], [], [], [], [], []] [some 45, some 46, some 47, some 48, some 49, some 50, some 51, some 52, some 53, some 54, some 55, some 44, some 56, some 57, some 12, some 13] none 0 0 (.inl rfl) F (by kernel_rfl) (by kernel_rfl) (by kernel_rfl) ?_ ⟨?_, ?_, ?_, ?_, ?_, ?_, ?_, ?_, ?_, ?_, ?_, ?_, ?_, ?_, ?_, ?_, trivial⟩ ?_
  ·rw [HF.out]; intro iq xq tqs dsq uq u' hi hf hs hW hx hbk
   have kx : ∀ b, xq.s ≤ b → b < xq.e → u'.heap[b]? = uq.heap[b]? := fun b h1 h2 => hbk b (.inr (.inl ⟨h1, h2⟩))
   have kt : ∀ t ∈ tqs, ∀ b, t.s ≤ b → b < t.e → u'.heap[b]? = uq.heap[b]? := fun t ht b h1 h2 => hbk b (.inr (.inr ⟨t, ht, h1, h2⟩))
   match iq with
   | 0 => exact hf
   | 1 => exact hf
   | 2 => exact hf
   | 3 => exact hf
   | 4 => exact hf
   | 5 => exact hf
   | 6 => exact hf
   | 7 => exact hf
   | 8 => obtain ⟨X1, d1, hv, p0⟩ := hf; exact ⟨X1, d1, hv, p0.keep (fun k _ h1 h2 => kx k h1 h2)⟩
   | 9 => exact hf
   | 10 => obtain ⟨X3, d3, hv, p0⟩ := hf; exact ⟨X3, d3, hv, p0.keep (fun k _ h1 h2 => kx k h1 h2)⟩
   | 11 => exact hf
   | 12 => exact hf
   | 13 => exact hf
   | 14 => exact hf
   | 15 => exact hf
  ·intro gh ρ u hc hf1 hg1 hd h0 hb he ha hF
   have r3 : ρ (.tmp 3) = .pointer (some ⟨w.heap.size, 0, none⟩) := (h0 3 (by decide +kernel)).trans rfl
   clear  hd h0 he ha hF
   go_simp
   rw [HF.out]
   exact ⟨OnlyL.refl _ _, rfl⟩
  ·intro gh ρ u hc hf1 hg1 hd h0 hb he ha hF
   replace hb : Below w3.heap.size w3 u := hb.drew.below (by decide +kernel)
   have hbz : w3.heap.size ≤ u.heap.size := hb.size
   have r45 : ρ (.tmp 45) = .pointer (some ⟨(w.heap.size), 0, none⟩) := by have h := hF 0 (by decide +kernel) (by decide +kernel); rw [HF.out] at h; exact (hd 0 (by decide +kernel) 45 (by kernel_rfl)).trans h
   have q_b := (HXb.out.below hb).2.1
   have k_b : w.heap.size < u.heap.size := by have := HXb.out.1; omega
   clear  hd h0 he ha hF
   go_simp
   rw [HF.out]
   exact ⟨OnlyL.refl _ _, rfl⟩
  ·intro gh ρ u hc hf1 hg1 hd h0 hb he ha hF
   have r3 : ρ (.tmp 3) = .pointer (some ⟨w.heap.size, 0, none⟩) := (h0 3 (by decide +kernel)).trans rfl
   clear  hd h0 he ha hF
   go_simp
   rw [HF.out]
   exact ⟨OnlyL.refl _ _, rfl⟩
  ·intro gh ρ u hc hf1 hg1 hd h0 hb he ha hF
   replace hb : Below w3.heap.size w3 u := hb.drew.below (by decide +kernel)
   have hbz : w3.heap.size ≤ u.heap.size := hb.size
   have r47 : ρ (.tmp 47) = .pointer (some ⟨(w.heap.size), 0, none⟩) := by have h := hF 2 (by decide +kernel) (by decide +kernel); rw [HF.out] at h; exact (hd 2 (by decide +kernel) 47 (by kernel_rfl)).trans h
   have q_b := (HXb.out.below hb).2.1
   have k_b : w.heap.size < u.heap.size := by have := HXb.out.1; omega
   clear  hd h0 he ha hF
   go_simp
   rw [HF.out]
   exact ⟨OnlyL.refl _ _, rfl⟩
  ·intro gh ρ u hc hf1 hg1 hd h0 hb he ha hF
   have r3 : ρ (.tmp 3) = .pointer (some ⟨w.heap.size, 0, none⟩) := (h0 3 (by decide +kernel)).trans rfl
   clear  hd h0 he ha hF
   go_simp
   rw [HF.out]
   exact ⟨OnlyL.refl _ _, rfl⟩
  ·intro gh ρ u hc hf1 hg1 hd h0 hb he ha hF
   replace hb : Below w3.heap.size w3 u := hb.drew.below (by decide +kernel)
   have hbz : w3.heap.size ≤ u.heap.size := hb.size
   have r49 : ρ (.tmp 49) = .pointer (some ⟨(w.heap.size), 2, none⟩) := by have h := hF 4 (by decide +kernel) (by decide +kernel); rw [HF.out] at h; exact (hd 4 (by decide +kernel) 49 (by kernel_rfl)).trans h
   have q_b := (HXb.out.below hb).2.1
   have k_b : w.heap.size < u.heap.size := by have := HXb.out.1; omega
   clear  hd h0 he ha hF
   go_simp
   rw [HF.out]
   exact ⟨OnlyL.refl _ _, rfl⟩
  ·intro gh ρ u hc hf1 hg1 hd h0 hb he ha hF
   have r2 : ρ (.tmp 2) = .int .i64 (m : Nat) := (h0 2 (by decide +kernel)).trans rfl
   clear  hd h0 he ha hF
   go_simp
   rw [HF.out]
   exact ⟨OnlyL.refl _ _, rfl⟩
  ·intro gh ρ u hc hf1 hg1 hd h0 hb he ha hF
   have r50 : ρ (.tmp 50) = .slice R nr cr := by have h := hF 5 (by decide +kernel) (by decide +kernel); rw [HF.out] at h; exact (hd 5 (by decide +kernel) 50 (by kernel_rfl)).trans h
   have r51 : ρ (.tmp 51) = .int .i64 (m : Nat) := by have h := hF 6 (by decide +kernel) (by decide +kernel); rw [HF.out] at h; exact (hd 6 (by decide +kernel) 51 (by kernel_rfl)).trans h
   clear  hd h0 he ha hF
   go_simp
   rw [HF.out]
   exact ⟨OnlyL.refl _ _, rfl⟩
  ·intro gh ρ u hc hf1 hg1 hd h0 hb he ha hF
   replace hb : Below w3.heap.size w3 u := hb.drew.below (by decide +kernel)
   have hbz : w3.heap.size ≤ u.heap.size := hb.size
   have r48 : ρ (.tmp 48) = .int .i64 width := by have h := hF 3 (by decide +kernel) (by decide +kernel); rw [HF.out] at h; exact (hd 3 (by decide +kernel) 48 (by kernel_rfl)).trans h
   have r52 : ρ (.tmp 52) = .slice R m cr := by have h := hF 7 (by decide +kernel) (by decide +kernel); rw [HF.out] at h; exact (hd 7 (by decide +kernel) 52 (by kernel_rfl)).trans h
   clear  hd h0 he ha hF
   go_simp
   have q_b := (HXb.out.below hb)
   refine (HLV2.out _ (HOR.out.below hb).base).mono ?_
   rintro e u1 ⟨X1, d1, rfl, ho, hb1⟩
   rw [HF.out]
   exact ⟨_, rfl, OnlyL.of_below hb1, X1, d1, rfl, RowB.of ho⟩
  ·intro gh ρ u hc hf1 hg1 hd h0 hb he ha hF
   have r11 : ρ (.tmp 11) = .int .i64 (k : Nat) := (h0 11 (by decide +kernel)).trans rfl
   clear  hd h0 he ha hF
   go_simp
   rw [HF.out]
   exact ⟨OnlyL.refl _ _, rfl⟩
  ·intro gh ρ u hc hf1 hg1 hd h0 hb he ha hF
   replace hb : Below w3.heap.size w3 u := hb.drew.below (by decide +kernel)
   have hbz : w3.heap.size ≤ u.heap.size := hb.size
   have r46 : ρ (.tmp 46) = .int .i64 width := by have h := hF 1 (by decide +kernel) (by decide +kernel); rw [HF.out] at h; exact (hd 1 (by decide +kernel) 46 (by kernel_rfl)).trans h
   have f8 : ∃ (X1 : Option Addr) (d1 : Nat), (gh 8).v = .slice X1 m d1 ∧ (RowB u (gh 8).s (gh 8).e (.slice X1 m d1, m) (strs lt)) := by have h := hF 8 (by decide +kernel) (by decide +kernel); rw [HF.out] at h; exact h
   obtain ⟨X1, d1, hv8, g8_0⟩ := f8
   have r53 : ρ (.tmp 53) = .slice X1 m d1 := (hd 8 (by decide +kernel) 53 (by kernel_rfl)).trans hv8
   have r54 : ρ (.tmp 54) = .int .i64 (k : Nat) := by have h := hF 9 (by decide +kernel) (by decide +kernel); rw [HF.out] at h; exact (hd 9 (by decide +kernel) 54 (by kernel_rfl)).trans h
   clear hv8 hd h0 he ha hF
   go_simp
   have q_b := (HXb.out.below hb)
   refine (HIN.out _ _ _ (Own.of_ownsRow g8_0.1).rd.base (row_cap g8_0.1)).mono ?_
   rintro e u1 ⟨X3, d3, rfl, ho, hb1⟩
   rw [HF.out]
   exact ⟨_, rfl, OnlyL.of_below hb1, X3, d3, rfl, RowB.of ho⟩
  ·intro gh ρ u hc hf1 hg1 hd h0 hb he ha hF
   have f10 : ∃ (X3 : Option Addr) (d3 : Nat), (gh 10).v = .tuple #[.slice X3 il.length d3, .bool true] ∧ (RowB u (gh 10).s (gh 10).e (.slice X3 il.length d3, il.length) (strs il)) := by have h := hF 10 (by decide +kernel) (by decide +kernel); rw [HF.out] at h; exact h
   obtain ⟨X3, d3, hv10, g10_0⟩ := f10
   have hrt10 := hv10
   have r55 : ρ (.tmp 55) = .tuple #[.slice X3 il.length d3, .bool true] := (hd 10 (by decide +kernel) 55 (by kernel_rfl)).trans hv10
   have HRT10 := Lib.hid hrt10
   clear hv10 hrt10 hd h0 he ha hF
   go_simp
   rw [HF.out]
   exact ⟨OnlyL.refl _ _, X3, d3, HRT10.out, rfl⟩
  ·intro gh ρ u hc hf1 hg1 hd h0 hb he ha hF
   have f11 : ∃ (X3 : Option Addr) (d3 : Nat), (gh 10).v = .tuple #[.slice X3 il.length d3, .bool true] ∧ (gh 11).v = .tuple #[.slice X3 il.length d3, .bool true] := by have h := hF 11 (by decide +kernel) (by decide +kernel); rw [HF.out] at h; exact h
   obtain ⟨X3, d3, hrt10, hv11⟩ := f11
   have r44 : ρ (.tmp 44) = .tuple #[.slice X3 il.length d3, .bool true] := (hd 11 (by decide +kernel) 44 (by kernel_rfl)).trans hv11
   have HRT10 := Lib.hid hrt10
   clear hv11 hrt10 hd h0 he ha hF
   go_simp
   rw [HF.out]
   exact ⟨OnlyL.refl _ _, X3, d3, HRT10.out, rfl⟩
  ·intro gh ρ u hc hf1 hg1 hd h0 hb he ha hF
   have f11 : ∃ (X3 : Option Addr) (d3 : Nat), (gh 10).v = .tuple #[.slice X3 il.length d3, .bool true] ∧ (gh 11).v = .tuple #[.slice X3 il.length d3, .bool true] := by have h := hF 11 (by decide +kernel) (by decide +kernel); rw [HF.out] at h; exact h
   obtain ⟨X3, d3, hrt10, hv11⟩ := f11
   have r44 : ρ (.tmp 44) = .tuple #[.slice X3 il.length d3, .bool true] := (hd 11 (by decide +kernel) 44 (by kernel_rfl)).trans hv11
   have HRT10 := Lib.hid hrt10
   clear hv11 hrt10 hd h0 he ha hF
   go_simp
   rw [HF.out]
   exact ⟨OnlyL.refl _ _, X3, d3, HRT10.out, rfl⟩
  ·intro gh ρ u hc hf1 hg1 hd h0 hb he ha hF
   have f12 : ∃ (X3 : Option Addr) (d3 : Nat), (gh 10).v = .tuple #[.slice X3 il.length d3, .bool true] ∧ (gh 12).v = .slice X3 il.length d3 := by have h := hF 12 (by decide +kernel) (by decide +kernel); rw [HF.out] at h; exact h
   obtain ⟨X3, d3, hrt10, hv12⟩ := f12
   have r56 : ρ (.tmp 56) = .slice X3 il.length d3 := (hd 12 (by decide +kernel) 56 (by kernel_rfl)).trans hv12
   have HRT10 := Lib.hid hrt10
   clear hv12 hrt10 hd h0 he ha hF
   go_simp
   rw [HF.out]
   exact ⟨OnlyL.refl _ _, X3, d3, HRT10.out, rfl⟩
  ·intro gh ρ u hc hf1 hg1 hd h0 hb he ha hF
   have f13 : ∃ (X3 : Option Addr) (d3 : Nat), (gh 10).v = .tuple #[.slice X3 il.length d3, .bool true] ∧ (gh 13).v = .bool true := by have h := hF 13 (by decide +kernel) (by decide +kernel); rw [HF.out] at h; exact h
   obtain ⟨X3, d3, hrt10, hv13⟩ := f13
   have r57 : ρ (.tmp 57) = .bool true := (hd 13 (by decide +kernel) 57 (by kernel_rfl)).trans hv13
   have HRT10 := Lib.hid hrt10
   clear hv13 hrt10 hd h0 he ha hF
   go_simp
   rw [HF.out]
   exact ⟨OnlyL.refl _ _, X3, d3, HRT10.out, rfl⟩
  intro gh w4 hB hE hA hF
  replace hB : Below w3.heap.size w3 w4 := hB.below rfl
  have f0 : (gh 0).v = .pointer (some ⟨(w.heap.size), 0, none⟩) := by have h := hF 0 (by decide +kernel) (by decide +kernel); rw [HF.out] at h; exact h
  have f1 : (gh 1).v = .int .i64 width := by have h := hF 1 (by decide +kernel) (by decide +kernel); rw [HF.out] at h; exact h
  have f2 : (gh 2).v = .pointer (some ⟨(w.heap.size), 0, none⟩) := by have h := hF 2 (by decide +kernel) (by decide +kernel); rw [HF.out] at h; exact h
  have f3 : (gh 3).v = .int .i64 width := by have h := hF 3 (by decide +kernel) (by decide +kernel); rw [HF.out] at h; exact h
  have f4 : (gh 4).v = .pointer (some ⟨(w.heap.size), 2, none⟩) := by have h := hF 4 (by decide +kernel) (by decide +kernel); rw [HF.out] at h; exact h
  have f5 : (gh 5).v = .slice R nr cr := by have h := hF 5 (by decide +kernel) (by decide +kernel); rw [HF.out] at h; exact h
  have f6 : (gh 6).v = .int .i64 (m : Nat) := by have h := hF 6 (by decide +kernel) (by decide +kernel); rw [HF.out] at h; exact h
  have f7 : (gh 7).v = .slice R m cr := by have h := hF 7 (by decide +kernel) (by decide +kernel); rw [HF.out] at h; exact h
  have f8 : ∃ (X1 : Option Addr) (d1 : Nat), (gh 8).v = .slice X1 m d1 ∧ (RowB w4 (gh 8).s (gh 8).e (.slice X1 m d1, m) (strs lt)) := by have h := hF 8 (by decide +kernel) (by decide +kernel); rw [HF.out] at h; exact h
  have f9 : (gh 9).v = .int .i64 (k : Nat) := by have h := hF 9 (by decide +kernel) (by decide +kernel); rw [HF.out] at h; exact h
  have f10 : ∃ (X3 : Option Addr) (d3 : Nat), (gh 10).v = .tuple #[.slice X3 il.length d3, .bool true] ∧ (RowB w4 (gh 10).s (gh 10).e (.slice X3 il.length d3, il.length) (strs il)) := by have h := hF 10 (by decide +kernel) (by decide +kernel); rw [HF.out] at h; exact h
  have f11 : ∃ (X3 : Option Addr) (d3 : Nat), (gh 10).v = .tuple #[.slice X3 il.length d3, .bool true] ∧ (gh 11).v = .tuple #[.slice X3 il.length d3, .bool true] := by have h := hF 11 (by decide +kernel) (by decide +kernel); rw [HF.out] at h; exact h
  have f12 : ∃ (X3 : Option Addr) (d3 : Nat), (gh 10).v = .tuple #[.slice X3 il.length d3, .bool true] ∧ (gh 12).v = .slice X3 il.length d3 := by have h := hF 12 (by decide +kernel) (by decide +kernel); rw [HF.out] at h; exact h
  have f13 : ∃ (X3 : Option Addr) (d3 : Nat), (gh 10).v = .tuple #[.slice X3 il.length d3, .bool true] ∧ (gh 13).v = .bool true := by have h := hF 13 (by decide +kernel) (by decide +kernel); rw [HF.out] at h; exact h
  have f14 : ∃ (X3 : Option Addr) (d3 : Nat), (gh 10).v = .tuple #[.slice X3 il.length d3, .bool true] ∧ (gh 14).v = .slice X3 il.length d3 := by have h := hF 14 (by decide +kernel) (by decide +kernel); rw [HF.out] at h; exact h
  have f15 : ∃ (X3 : Option Addr) (d3 : Nat), (gh 10).v = .tuple #[.slice X3 il.length d3, .bool true] ∧ (gh 15).v = .bool true := by have h := hF 15 (by decide +kernel) (by decide +kernel); rw [HF.out] at h; exact h
  obtain ⟨X1, d1, hv8, _⟩ := f8
  obtain ⟨X3, d3, hv10, hr3⟩ := f10
  have hv0 := f0
  have hv1 := f1
  have hv2 := f2
  have hv3 := f3
  have hv4 := f4
  have hv5 := f5
  have hv6 := f6
  have hv7 := f7
  have hv9 := f9
  obtain ⟨X3_11, d3_11, hu10, hv11⟩ := f11
  replace hu10 := hv10.symm.trans hu10
  simp at hu10
  try simp only [and_assoc] at hu10
  obtain ⟨rfl, rfl⟩ := hu10
  obtain ⟨X3_12, d3_12, hu10, hv12⟩ := f12
  replace hu10 := hv10.symm.trans hu10
  simp at hu10
  try simp only [and_assoc] at hu10
  obtain ⟨rfl, rfl⟩ := hu10
  obtain ⟨X3_13, d3_13, hu10, hv13⟩ := f13
  replace hu10 := hv10.symm.trans hu10
  simp at hu10
  try simp only [and_assoc] at hu10
  obtain ⟨rfl, rfl⟩ := hu10
  obtain ⟨X3_14, d3_14, hu10, hv14⟩ := f14
  replace hu10 := hv10.symm.trans hu10
  simp at hu10
  try simp only [and_assoc] at hu10
  obtain ⟨rfl, rfl⟩ := hu10
  obtain ⟨X3_15, d3_15, hu10, hv15⟩ := f15
  replace hu10 := hv10.symm.trans hu10
  simp at hu10
  try simp only [and_assoc] at hu10
  obtain ⟨rfl, rfl⟩ := hu10
  obtain ⟨hs10, hse10, he10⟩ := hE 10 (by decide +kernel)
  change w3.heap.size ≤ _ at hs10
  clear hE hA hF
  simp only [putDs, Nat.reduceAdd, hv0, hv1, hv2, hv3, hv4, hv5, hv6, hv7, hv8, hv9, hv10, hv11, hv12, hv13, hv14, hv15]
  clear hv0 hv1 hv2 hv3 hv4 hv5 hv6 hv7 hv8 hv9 hv10 hv11 hv12 hv13 hv14 hv15
  generalize (gh 10).s = s4_10 at *
  generalize (gh 10).e = e4_10 at *
  clear HF
  have hb := hB
  clear hB
  have hzw4 : w3.heap.size ≤ w4.heap.size := hb.size
  have hzzw4 : w.heap.size ≤ w4.heap.size := by omega
  replace HB := Lib.hid (below_then HB.out hb HB.out.size)
  replace HOR := Lib.hid (HOR.out.below hb)
  replace HOH := Lib.hid (HOH.out.below hb)
  replace HXb := Lib.hid (HXb.out.below hb)
  clear hxb hfb hkb
  have hxb := HXb.out.2.1
  have hfb := HXb.out.2.2
  have hkb := HXb.out.1
  replace HXr := Lib.hid (HXr.out.below hb)
  clear hxr hfr hkr
  have hxr := HXr.out.2.1
  have hfr := HXr.out.2.2
  have hkr := HXr.out.1
  clear hb
  have HOU : Hid (RowB w4 (s4_10) (e4_10) ((.slice X3 il.length d3, il.length)) (strs il)) := hr3
  have hr39 : e4_10 ≤ w4.heap.size ∧ w.heap.size ≤ s4_10 ∧ s4_10 ≤ e4_10 := by omega
  clear hr3 hpr HLV2 HIN
  go_wp2
  refine bodyPost_named (fun w5 hw => ?_)
  have hz5 : w4.heap.size + 0 ≤ w5.heap.size := by rw [hw]; first | omega | (simp [World.setCell]; done) | (simp [World.setCell]; omega)
  have hzz5 : w.heap.size ≤ w5.heap.size := by omega
  have hbn : Below w4.heap.size w4 w5 := by rw [hw]; exact (by ((repeat (first | ((with_reducible refine Below.alloc ?_ ?_ _); rotate_left 1; (focus (first | omega | (simp; done) | (simp; omega)))) | (with_reducible refine Below.drew ?_) | ((with_reducible refine Below.setCell ?_ ?_ _); rotate_left 1; (focus (first | omega | (simp; done) | (simp; omega)))))); exact Below.refl _ _))
  replace HB := Lib.hid (below_then HB.out hbn HB.out.size)
  replace HOR := Lib.hid (HOR.out.below hbn)
  replace HOH := Lib.hid (HOH.out.below hbn)
  replace HOU := Lib.hid (HOU.out.below hbn)
  replace HXb := Lib.hid (HXb.out.below hbn)
  clear hxb hfb hkb
  have hxb := HXb.out.2.1
  have hfb := HXb.out.2.2
  have hkb := HXb.out.1
  replace HXr := Lib.hid (HXr.out.below hbn)
  clear hxr hfr hkr
  have hxr := HXr.out.2.1
  have hfr := HXr.out.2.2
  have hkr := HXr.out.1
  clear hbn
  clear hw
  refine bodyPost_ret (v := .tuple #[.int .i64 (k : Nat), .slice X3 il.length d3, .int .i64 0]) (by simp [results, Tryz.results42, go_sem]) rfl ?_
  rw [HEQ.out.1, HEQ.out.2.1, HEQ.out.2.2]
  exact ⟨⟨X3, d3, rfl, (HOU.out.ownB rfl (by omega) (by omega)).mono (by omega) (by omega) (by omega)⟩, HB.out⟩
end Go.Proofs.YtmmepogjocfefaaGreat
