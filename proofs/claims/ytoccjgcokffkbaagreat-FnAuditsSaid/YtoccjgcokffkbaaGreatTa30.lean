/- Part 30 of the proof of FnAudits: lemmas and contracts. -/
import Derived.Test.YtoccjgcokffkbaaGreatTa29
import Derived.Test.YtoccjgcokffkbaaGreatTa27
import Derived.Test.YtoccjgcokffkbaaGreatTa15
namespace Go.Proofs.YtoccjgcokffkbaaGreat
set_option linter.unusedVariables false
set_option linter.unusedSimpArgs false
set_option maxHeartbeats 20000000
section
open Go.RowKit Go.Shelf
def hasTk (hs : List Hd) (m : Int) : Bool := hs.any (fun x => x.taken == m)
theorem tk_le {width : Int} {es : List Ent} {rs : List Rcp} {hs : List Hd} (hp : BrkParts width es rs hs) {m : Int} (h : hasTk hs m = true) : 0 ≤ m ∧ m ≤ (rs.length : Nat) := by
 rw [hasTk, List.any_eq_true] at h
 obtain ⟨x, hx, he⟩ := h
 obtain ⟨k, hk⟩ := List.getElem?_of_mem hx
 have h4 := hp.roots
 rw [rootsOk, Bool.and_eq_true] at h4
 have h5 := rootsTo_le (k := k + 1) (by have := (List.getElem?_eq_some_iff.1 hk).1; omega) h4.2
 rw [rootsTo_succ hk, Bool.and_eq_true] at h5
 have h6 := (rootsAt_all h5.2).2.1
 rw [takenM_len] at h6
 have h7 := headOk_all (headsOk_at hp.heads hk).2.1
 have h8 : x.taken = m := by simpa using he
 omega
def auI (rs : List Rcp) (r : Rcp) (m : Int) : Int := rcpPos r (rs.take m.toNat) 0
def auC (rs : List Rcp) (hs : List Hd) (r : Rcp) (m : Int) : Int := if hasTk hs m then (if auI rs r m < 0 then 3 else 0) else 2
def auZ (rs : List Rcp) (hs : List Hd) (r : Rcp) (m : Int) : Int := if auC rs hs r m = 0 then auI rs r m else 0
def auL (width : Int) (rs : List Rcp) (hs : List Hd) (r : Rcp) (m : Int) : List ByteArray := if auC rs hs r m = 0 then incFu width 513 ((takenM width rs).take m.toNat) (auI rs r m).toNat else []
theorem au_no (width : Int) (rs : List Rcp) {hs : List Hd} {r : Rcp} {m : Int} (h : hasTk hs m = false) : auC rs hs r m = 2 ∧ auZ rs hs r m = 0 ∧ auL width rs hs r m = [] := by
 have h3 : auC rs hs r m = 2 := by rw [auC, h]; rfl
 exact ⟨h3, by rw [auZ, h3, if_neg (by decide)], by rw [auL, h3, if_neg (by decide)]⟩
theorem au_out (width : Int) {rs : List Rcp} {hs : List Hd} {r : Rcp} {m : Int} (h : hasTk hs m = true) (hk : auI rs r m < 0) : auC rs hs r m = 3 ∧ auZ rs hs r m = 0 ∧ auL width rs hs r m = [] := by
 have h3 : auC rs hs r m = 3 := by rw [auC, h, if_pos rfl, if_pos hk]
 exact ⟨h3, by rw [auZ, h3, if_neg (by decide)], by rw [auL, h3, if_neg (by decide)]⟩
theorem au_in (width : Int) {rs : List Rcp} {hs : List Hd} {r : Rcp} {m k : Nat} (h : hasTk hs m = true) (hk : auI rs r m = k) : auC rs hs r m = 0 ∧ auZ rs hs r m = k ∧ auL width rs hs r m = incFu width 513 ((takenM width rs).take m) k := by
 have h3 : auC rs hs r m = 0 := by rw [auC, h, if_pos rfl, if_neg (by omega)]
 exact ⟨h3, by rw [auZ, h3, if_pos rfl, hk], by rw [auL, h3, if_pos rfl, hk, Int.toNat_natCast, Int.toNat_natCast]⟩
theorem auI_two (rs : List Rcp) (r : Rcp) (m : Nat) : auI rs r m = -1 ∨ ∃ k : Nat, k < m ∧ auI rs r m = k := by
 rw [auI, Int.toNat_natCast]
 rcases rcpPos_ge (r := r) (rs.take m) 0 with ⟨h, _⟩ | ⟨k, h1, h2, _⟩
 ·exact .inl h
 ·exact .inr ⟨k, by rw [List.length_take] at h1; omega, by rw [h2, Nat.zero_add]⟩
def AuPost (w : World) (z : Int) (l : List ByteArray) (code : Int) (e : Ending) (w' : World) : Prop :=
 (∃ (A : Option Addr) (c : Nat), e = .returned (.tuple #[.int .i64 z, .slice A l.length c, .int .i64 code]) ∧ l.length ≤ c ∧ Own w' w.heap.size w'.heap.size A (strs l)) ∧ Below w.heap.size w w'
theorem au_none {w w' : World} (A : Option Addr) (c : Nat) (hB : Below w.heap.size w w') (code : Int) : AuPost w 0 [] code (.returned (.tuple #[.int .i64 0, .slice A 0 c, .int .i64 code])) w' :=
 ⟨⟨A, c, rfl, Nat.zero_le _, Own.nil⟩, hB⟩
set_option maxRecDepth 100000 in
theorem tkPred_c (m : Int) (B1 : Nat) (x : Hd) (w : World) (h1 : B1 < w.heap.size) (hc1 : w.cell? ⟨B1, 0, none⟩ = some (.int .i64 m)) :
  Calls Tryz.prog 66 #[.agg #[.int .i64 x.num, .int .i64 x.size, .string x.root, .int .i64 x.taken, .string x.troot], .pointer (some ⟨B1, 0, none⟩)] w fun e w' => e = .returned (.bool (x.taken == m)) ∧ Below w.heap.size w w' := by
 go_enter Tryz.func66, Tryz.ntmps66
 go_wp2
 go_ret
 exact ⟨ret_bool (by first | rfl | (simp; done)), (Below.refl _ _).alloc (Nat.le_refl _) _⟩
set_option maxRecDepth 100000 in
theorem tkFunc_c (A : Option Addr) (c lo hi n : Nat) (l : List Hd) (m : Int) (B1 : Nat) (w : World) (hr : Rd w lo hi A (hds l)) (hn : l.length = n) (hl : n ≤ 1048576) (h1 : B1 < w.heap.size) (hc1 : w.cell? ⟨B1, 0, none⟩ = some (.int .i64 m)) :
  Calls Tryz.prog 115 #[.slice A n c, .func (.func 66) #[] #[.pointer (some ⟨B1, 0, none⟩)]] w fun e w' => e = .returned (.int .i64 (firstOf (fun x => x.taken == m) l 0)) ∧ Below w.heap.size w w' := by
 have HN := lH hn
 clear hn
 have eg : ∀ args w, (callFunc 66 args).run Tryz.prog w = .ok (.enter 66 args) w := enters_of Tryz.func66 (by kernel_rfl) rfl
 go_enter Tryz.func115, Tryz.ntmps115
 go_wp2
 go_loopw [5, 8] (fun _ i wr => ∃ k : Nat, k ≤ n ∧ i = .int .i64 k ∧ firstOf (fun x => x.taken == m) l 0 = firstOf (fun x => x.taken == m) (l.drop k) k ∧ Below w.heap.size w wr) (fun _ i _ => n - (intOf i).toNat)
 case atStart => exact ⟨0, Nat.zero_le _, rfl, rfl, Below.refl _ _⟩
 case round =>
  obtain ⟨k, hk, rfl, hst, hb0⟩ := hrel
  have HST := lH hst
  have HB0 := lH hb0
  clear hst
  by_cases hlt : k < n
  ·obtain ⟨b, off, x, rfl, hb, hks, hc⟩ := hd_cells (hr.below hb0) (k := k) (by rw [HN.out]; exact hlt)
   have hc0 := hc.1
   have hc1' := hc.2.1
   have hc2 := hc.2.2.1
   have hc3 := hc.2.2.2.1
   have hc4 := hc.2.2.2.2
   have hI1 : (0 : Int) ≤ (k : Int) := by omega
   have hI2 : (k : Int) < (n : Int) := by omega
   have HK := lH hks
   have HP := lH (tkPred_c m B1 x wr (Nat.lt_of_lt_of_le h1 hb0.size) ((hb0.cell (p := ⟨B1, 0, none⟩) h1).trans hc1))
   clear hc hks hr hb0 hc1
   rcases hp : (x.taken == m) with _ | _
   ·have HS := lH (firstOf_miss (p := fun x => x.taken == m) HK.out hp)
    rw [hp] at HP
    go_wp2_with (go_at_fn 66; refine HP.out.mono ?_; rintro e w2 ⟨rfl, hb2⟩)
    go_roundw
    case rel => exact ⟨k + 1, by omega, by go_num, by rw [HST.out, HS.out], below_then HB0.out hb2 HB0.out.size⟩
    case measure => simp [intOf]; omega
   ·have HS := lH (firstOf_hit (p := fun x => x.taken == m) HK.out hp)
    rw [hp] at HP
    go_wp2_with (go_at_fn 66; refine HP.out.mono ?_; rintro e w2 ⟨rfl, hb2⟩)
    go_ret
    exact ⟨ret_int (by rw [HST.out, HS.out]), below_then HB0.out hb2 HB0.out.size⟩
  ·obtain rfl : k = n := by omega
   clear hr hb0
   go_wp2
   go_ret
   exact ⟨ret_int (by rw [HST.out, ← HN.out, firstOf_end]), HB0.out⟩
set_option maxRecDepth 100000 in
theorem tkContains_c (A : Option Addr) (c lo hi n : Nat) (l : List Hd) (m : Int) (B1 : Nat) (w : World) (hr : Rd w lo hi A (hds l)) (hn : l.length = n) (hl : n ≤ 1048576) (h1 : B1 < w.heap.size) (hc1 : w.cell? ⟨B1, 0, none⟩ = some (.int .i64 m)) :
  Calls Tryz.prog 65 #[.slice A n c, .func (.func 66) #[] #[.pointer (some ⟨B1, 0, none⟩)]] w fun e w' => e = .returned (.bool (hasTk l m)) ∧ Below w.heap.size w w' := by
 have HI := lH (tkFunc_c A c lo hi n l m B1 w hr hn hl h1 hc1)
 have HD : Hid (decide (0 ≤ firstOf (fun x => x.taken == m) l 0) = hasTk l m) := lH firstOf_any
 clear hr hn hc1
 generalize firstOf (fun x => x.taken == m) l 0 = q at *
 go_enter Tryz.func65, Tryz.ntmps65
 go_wp2_with fail
 refine HI.out.mono ?_
 rintro e w2 ⟨rfl, hb⟩
 have HB := lH hb
 clear hb HI
 rcases (show 0 ≤ q ∨ ¬ 0 ≤ q by omega) with hq | hq
 ·go_wp2
  go_ret
  exact ⟨ret_bool (by rw [← HD.out, decide_eq_true hq]), HB.out⟩
 ·go_wp2
  go_ret
  exact ⟨ret_bool (by rw [← HD.out, decide_eq_false (by omega)]), HB.out⟩
set_option maxRecDepth 100000 in
theorem rcpIndex_c (A : Option Addr) (c lo hi n : Nat) (l : List Rcp) (r : Rcp) (w : World) (hr : Rd w lo hi A (rcps l)) (hn : l.length = n) (hl : n ≤ 1048576) (hf : ∀ x ∈ l, x.fits) (hrf : r.fits) :
  Calls Tryz.prog 67 #[.slice A n c, .agg #[.string r.reader, .string r.topic, .int .i64 r.index]] w fun e w' => e = .returned (.int .i64 (rcpPos r l 0)) ∧ Below w.heap.size w w' := by
 have HN := lH hn
 have HR := lH hr
 have HF := lH hf
 clear hn hr hf
 go_enter Tryz.func67, Tryz.ntmps67
 go_wp2
 go_loopw [5, 8] (fun _ i wr => ∃ (k : Nat), k ≤ n ∧ i = .int .i64 k ∧ rcpPos r l 0 = rcpPos r (l.drop k) k ∧ NewBox wr w.heap.size [.string r.reader, .string r.topic, .int .i64 r.index] ∧ Below w.heap.size w wr) (fun _ i _ => n - (intOf i).toNat)
 case atStart => exact ⟨0, Nat.zero_le _, rfl, rfl, NewBox.new w #[.string r.reader, .string r.topic, .int .i64 r.index] _, (Below.refl _ _).alloc (Nat.le_refl _) _⟩
 case round =>
  obtain ⟨k, hk, rfl, hst, hx, hb0⟩ := hrel
  have HST := lH hst
  have HB0 := lH hb0
  have HX := lH hx
  have hzr := hx.1
  have e0 : wr.cell? ⟨w.heap.size, 0, none⟩ = some (.string r.reader) := hx.cell (o := 0) rfl
  have e1 : wr.cell? ⟨w.heap.size, 1, none⟩ = some (.string r.topic) := hx.cell (o := 1) rfl
  have e2 : wr.cell? ⟨w.heap.size, 2, none⟩ = some (.int .i64 r.index) := hx.cell (o := 2) rfl
  clear hst hx hb0
  by_cases hlt : k < n
  ·obtain ⟨b, off, x, rfl, hb, hks, hc⟩ := rcp_cells (HR.out.below HB0.out) (k := k) (by rw [HN.out]; exact hlt)
   have hc0 := hc.1
   have hc1 := hc.2.1
   have hc2 := hc.2.2
   have HK := lH hks
   have hI1 : (0 : Int) ≤ (k : Int) := by omega
   have hI : (k : Int) < n := by omega
   have heq := eqlRcp r x hrf (HF.out x (List.mem_of_getElem? hks))
   have HM := lH (fun h => rcpPos_miss (r := r) hks h)
   clear hc hks
   go_wp2_with fail
   go_quiet (fail)
   generalize hw5 : wr.drewN _ = w5
   have HX5 : Hid (NewBox w5 w.heap.size [.string r.reader, .string r.topic, .int .i64 r.index]) := by rw [Hid, ← hw5]; exact HX.out.drewN _
   have HB5 : Hid (Below w.heap.size w w5) := by rw [Hid, ← hw5]; exact below_then HB0.out (below_drewN _ _) HB0.out.size
   clear hw5 heq e0 e1 e2 hc0 hc1 hc2
   rcases hd : decide (r = x) with _ | _
   ·have HH := lH (HM.out (fun e => of_decide_eq_false hd e.symm))
    clear hd HM
    go_wp2
    go_roundw
    case rel => exact ⟨k + 1, by omega, by go_num, by rw [HST.out, HH.out], HX5.out, HB5.out⟩
    case measure => simp [intOf]; omega
   ·have HH := lH (rcpPos_hit (r := r) (by rw [of_decide_eq_true hd]; exact HK.out))
    clear hd HM
    go_wp2
    go_ret
    exact ⟨ret_int (by rw [HST.out, HH.out]), HB5.out⟩
  ·obtain rfl : k = n := by omega
   clear e0 e1 e2
   go_wp2
   go_ret
   exact ⟨ret_int (by rw [HST.out, ← HN.out, rcpPos_end]), HB0.out⟩
set_option maxRecDepth 100000 in
theorem audit_c (width z1 z2 : Int) (p : Nat) (E R H A1 A2 : Option Addr) (ne nr nh ce cr ch c1 c2 lo2 hi2 lo3 hi3 m1 m2 : Nat) (es : List Ent) (rs : List Rcp) (hs : List Hd) (h : Hd) (r : Rcp) (c : Int) (w : World) (hbx : NewBox w p [.int .i64 width, .slice E ne ce, .slice R nr cr, .slice H nh ch, .int .i64 z1, .slice A1 m1 c1, .int .i64 z2, .slice A2 m2 c2, .int .i64 h.num, .int .i64 h.size, .string h.root, .int .i64 h.taken, .string h.troot])
  (hR : Rd w lo2 hi2 R (rcps rs)) (hH : Rd w lo3 hi3 H (hds hs)) (hnr : rs.length = nr) (hnh : hs.length = nh) (b2 : nr ≤ 1048576) (b3 : nh ≤ 1048576) (b7 : nr ≤ cr) (hfr : ∀ x ∈ rs, x.fits) (hrf : r.fits) (hp : BrkParts width es rs hs) :
  Calls Tryz.prog 36 #[.pointer (some ⟨p, 0, none⟩), .agg #[.string r.reader, .string r.topic, .int .i64 r.index], .int .i64 c] w (AuPost w (auZ rs hs r c) (auL width rs hs r c) (auC rs hs r c)) := by
 have HLE := lH (fun (hq : hasTk hs c = true) => tk_le hp hq)
 have HNO := lH (fun (hq : hasTk hs c = false) => au_no (r := r) width rs hq)
 have hta := takenM_are hp.wd hp.rcps
 have htl := (takenM_len width rs).trans hnr
 have h52 : nr ≤ 512 := by rw [← hnr]; exact rcpsOk_len hp.rcps
 have HW := lH (And.intro hp.wd (And.intro hta (And.intro htl hnr)))
 have HNH := lH hnh
 have HIX := lH (fun W m (q : Rd W 0 W.heap.size R (rcps rs)) (hm : m ≤ nr) => rcpIndex_c R cr 0 W.heap.size m (rs.take m) r W (q.rcpsTake m) (by rw [List.length_take]; omega) (by omega) (fun x hx => hfr x (List.mem_of_mem_take hx)) hrf)
 have HTK := lH (fun W m (q : NewBox W p [.int .i64 width, .slice E ne ce, .slice R nr cr, .slice H nh ch, .int .i64 z1, .slice A1 m1 c1, .int .i64 z2, .slice A2 m2 c2, .int .i64 h.num, .int .i64 h.size, .string h.root, .int .i64 h.taken, .string h.troot]) (r : Rd W 0 W.heap.size R (rcps rs)) (hm : m ≤ nr) => takens_c width z1 z2 p m E R H A1 A2 ne nr nh ce cr ch c1 c2 0 W.heap.size m1 m2 rs h W q r hnr b2 b7 hm hfr)
 have HCF : Hid (∀ W, Rd W 0 W.heap.size H (hds hs) → ∀ B1, B1 < W.heap.size → W.cell? ⟨B1, 0, none⟩ = some (.int .i64 c) → _) := lH (fun W q B1 hb hc => tkContains_c H ch 0 W.heap.size nh hs c B1 W q hnh b3 hb hc)
 have hpw : p < w.heap.size := hbx.1
 have HB : Hid (Below w.heap.size w w) := Below.refl _ _
 have HOR : Hid (Rd w (0) (w.heap.size) (R) (rcps rs)) := Rd.base hR
 have HOH : Hid (Rd w (0) (w.heap.size) (H) (hds hs)) := Rd.base hH
 replace HB : Hid (Below w.heap.size w w) := (Below.refl _ _)
 have HXb : Hid (NewBox w (p) [.int .i64 width, .slice E ne ce, .slice R nr cr, .slice H nh ch, .int .i64 z1, .slice A1 m1 c1, .int .i64 z2, .slice A2 m2 c2, .int .i64 h.num, .int .i64 h.size, .string h.root, .int .i64 h.taken, .string h.troot]) := hbx
 obtain ⟨hkb, hxb, hfb⟩ := HXb.out
 clear hbx
 clear hR hH hnr hnh hfr hrf hp hta htl
 go_enter Tryz.func36, Tryz.ntmps36
 go_wp2_with fail
 refine calls_named (fun w1 hw => ?_)
 have hz1 : w.heap.size + 2 ≤ w1.heap.size := by rw [hw]; first | omega | simp [World.setCell] <;> omega
 have hzz1 : w.heap.size ≤ w1.heap.size := by omega
 have hbn : Below w.heap.size w w1 := by rw [hw]; exact (by repeat with_reducible first | exact bR _ | apply bA | apply bD)
 replace HB := lH (below_then HB.out hbn HB.out.size)
 replace HOR := lH (HOR.out.below hbn)
 replace HOH := lH (HOH.out.below hbn)
 replace HXb := lH (HXb.out.below hbn)
 clear hxb hfb hkb
 obtain ⟨hkb, hxb, hfb⟩ := HXb.out
 clear hbn
 have HXr : Hid (NewBox w1 (w.heap.size) [.string r.reader, .string r.topic, .int .i64 r.index]) := by rw [Hid, hw]; exact ⟨by first | omega | (simp [World.setCell]; done) | (simp [World.setCell]; omega), fun o => by rcases o with _ | _ | _ | o <;> go_simp, fun o => by go_simp⟩
 obtain ⟨hkr, hxr, hfr⟩ := HXr.out
 have HXt : Hid (NewBox w1 (w.heap.size + 1) [.int .i64 c]) := by rw [Hid, hw]; exact ⟨by first | omega | (simp [World.setCell]; done) | (simp [World.setCell]; omega), fun o => by rcases o with _ | o <;> go_simp, fun o => by go_simp⟩
 obtain ⟨hkt, hxt, hft⟩ := HXt.out
 clear hw
 refine (HCF.out _ HOH.out.base _ hkt (hxt 0)).mono ?_
 rintro e w2 ⟨rfl, hb⟩
 have hzw2 : w1.heap.size ≤ w2.heap.size := hb.size
 have hzzw2 : w.heap.size ≤ w2.heap.size := by omega
 replace HB := lH (below_then HB.out hb HB.out.size)
 replace HOR := lH (HOR.out.below hb)
 replace HOH := lH (HOH.out.below hb)
 replace HXb := lH (HXb.out.below hb)
 clear hxb hfb hkb
 obtain ⟨hkb, hxb, hfb⟩ := HXb.out
 replace HXr := lH (HXr.out.below hb)
 clear hxr hfr hkr
 obtain ⟨hkr, hxr, hfr⟩ := HXr.out
 replace HXt := lH (HXt.out.below hb)
 clear hxt hft hkt
 obtain ⟨hkt, hxt, hft⟩ := HXt.out
 clear hb
 clear HCF
 rcases hq1 : hasTk hs c with _ | _
 ·have HEQ := lH (HNO.out hq1)
  clear HNO HLE hq1 HTK HW HIX
  go_wp2
  refine bodyPost_named (fun w3 hw => ?_)
  have hz3 : w2.heap.size + 0 ≤ w3.heap.size := by rw [hw]; first | omega | simp [World.setCell] <;> omega
  have hzz3 : w.heap.size ≤ w3.heap.size := by omega
  have hbn : Below w2.heap.size w2 w3 := by rw [hw]; exact (by repeat with_reducible first | exact bR _ | apply bA | apply bD)
  replace HB := lH (below_then HB.out hbn HB.out.size)
  replace HOR := lH (HOR.out.below hbn)
  replace HOH := lH (HOH.out.below hbn)
  replace HXb := lH (HXb.out.below hbn)
  clear hxb hfb hkb
  obtain ⟨hkb, hxb, hfb⟩ := HXb.out
  replace HXr := lH (HXr.out.below hbn)
  clear hxr hfr hkr
  obtain ⟨hkr, hxr, hfr⟩ := HXr.out
  replace HXt := lH (HXt.out.below hbn)
  clear hxt hft hkt
  obtain ⟨hkt, hxt, hft⟩ := HXt.out
  clear hbn
  clear hw
  refine bodyPost_ret (v := .tuple #[.int .i64 0, .slice none 0 0, .int .i64 2]) (by simp [results, Tryz.results36, go_sem]) rfl ?_
  rw [HEQ.out.1, HEQ.out.2.1, HEQ.out.2.2]
  exact au_none _ _ HB.out 2
 have hle := HLE.out hq1
 obtain ⟨m, rfl⟩ : ∃ m : Nat, c = m := ⟨c.toNat, by omega⟩
 have hmn : m ≤ nr := by have := HW.out.2.2.2; omega
 have HOUT := lH (fun (hk : auI rs r m < 0) => au_out width hq1 hk)
 have HINN := lH (fun (k : Nat) (hk : auI rs r m = k) => au_in width hq1 hk)
 have HTWO := lH (auI_two rs r m)
 have hix2 := fun W (q : Rd W 0 W.heap.size R (rcps rs)) => HIX.out W m q hmn
 rw [show rcpPos r (rs.take m) 0 = auI rs r m by rw [auI, Int.toNat_natCast]] at hix2
 have HIX2 := lH hix2
 clear hix2 HIX HNO HLE hq1 hle
 have hpr := slicePreR R nr cr m (by omega)
 go_wp2_with fail
 refine wp_named (fun w3 hw => ?_)
 have hz3 : w2.heap.size + 0 ≤ w3.heap.size := by rw [hw]; first | omega | simp [World.setCell] <;> omega
 have hzz3 : w.heap.size ≤ w3.heap.size := by omega
 have hbn : Below w2.heap.size w2 w3 := by rw [hw]; exact (by repeat with_reducible first | exact bR _ | apply bA | apply bD)
 replace HB := lH (below_then HB.out hbn HB.out.size)
 replace HOR := lH (HOR.out.below hbn)
 replace HOH := lH (HOH.out.below hbn)
 replace HXb := lH (HXb.out.below hbn)
 clear hxb hfb hkb
 obtain ⟨hkb, hxb, hfb⟩ := HXb.out
 replace HXr := lH (HXr.out.below hbn)
 clear hxr hfr hkr
 obtain ⟨hkr, hxr, hfr⟩ := HXr.out
 replace HXt := lH (HXt.out.below hbn)
 clear hxt hft hkt
 obtain ⟨hkt, hxt, hft⟩ := HXt.out
 clear hbn
 clear hw
 have HL := lH (fun v : Later w3 => HIX2.out v.v (HOR.out.below v.h).base)
 have E1 : (m : Int) ≤ cr := by omega
 have l2 : ∀ v : Later w3, v.v.cell? ⟨p, 2, none⟩ = some (.slice R nr cr) := fun v => (later_cell v _ _ hkb).trans (hxb 2)
 have l9 : ∀ v : Later w3, v.v.cell? ⟨(w.heap.size + 1), 0, none⟩ = some (.int .i64 (m : Nat)) := fun v => (later_cell v _ _ hkt).trans (hxt 0)
 have l3 : ∀ v : Later w3, v.v.cell? ⟨(w.heap.size), 0, none⟩ = some (.string r.reader) := fun v => (later_cell v _ _ hkr).trans (hxr 0)
 have l4 : ∀ v : Later w3, v.v.cell? ⟨(w.heap.size), 1, none⟩ = some (.string r.topic) := fun v => (later_cell v _ _ hkr).trans (hxr 1)
 have l5 : ∀ v : Later w3, v.v.cell? ⟨(w.heap.size), 2, none⟩ = some (.int .i64 r.index) := fun v => (later_cell v _ _ hkr).trans (hxr 2)
 generalize auI rs r m = q at *
 refine wp_region_later (by kernel_rfl) (by kernel_rfl) ?_
 repeat (go_big_quiet_step ((with_reducible exact later_call (HL.out _))))
 refine wpQuiet_nil ?_
 intro wL h9
 have hb9 := later_below h9
 have hzwL : w3.heap.size ≤ wL.heap.size := hb9.size
 have hzzwL : w.heap.size ≤ wL.heap.size := by omega
 replace HB := lH (below_then HB.out hb9 HB.out.size)
 replace HOR := lH (HOR.out.below hb9)
 replace HOH := lH (HOH.out.below hb9)
 replace HXb := lH (HXb.out.below hb9)
 clear hxb hfb hkb
 obtain ⟨hkb, hxb, hfb⟩ := HXb.out
 replace HXr := lH (HXr.out.below hb9)
 clear hxr hfr hkr
 obtain ⟨hkr, hxr, hfr⟩ := HXr.out
 replace HXt := lH (HXt.out.below hb9)
 clear hxt hft hkt
 obtain ⟨hkt, hxt, hft⟩ := HXt.out
 clear l2 l3 l4 l5 h9 hb9 HL HIX2 l9
 rcases HTWO.out with hq | ⟨k, hkm, hq⟩
 ·have HEQ := lH (HOUT.out (by omega))
  have hq0 : q < 0 := by omega
  clear HOUT HINN HTWO hq HTK HW hpr
  go_wp2
  refine bodyPost_named (fun w4 hw => ?_)
  have hz4 : wL.heap.size + 0 ≤ w4.heap.size := by rw [hw]; first | omega | simp [World.setCell] <;> omega
  have hzz4 : w.heap.size ≤ w4.heap.size := by omega
  have hbn : Below wL.heap.size wL w4 := by rw [hw]; exact (by repeat with_reducible first | exact bR _ | apply bA | apply bD)
  replace HB := lH (below_then HB.out hbn HB.out.size)
  replace HOR := lH (HOR.out.below hbn)
  replace HOH := lH (HOH.out.below hbn)
  replace HXb := lH (HXb.out.below hbn)
  clear hxb hfb hkb
  obtain ⟨hkb, hxb, hfb⟩ := HXb.out
  replace HXr := lH (HXr.out.below hbn)
  clear hxr hfr hkr
  obtain ⟨hkr, hxr, hfr⟩ := HXr.out
  replace HXt := lH (HXt.out.below hbn)
  clear hxt hft hkt
  obtain ⟨hkt, hxt, hft⟩ := HXt.out
  clear hbn
  clear hw
  refine bodyPost_ret (v := .tuple #[.int .i64 0, .slice none 0 0, .int .i64 3]) (by simp [results, Tryz.results36, go_sem]) rfl ?_
  rw [HEQ.out.1, HEQ.out.2.1, HEQ.out.2.2]
  exact au_none _ _ HB.out 3
 have HEQ := lH (HINN.out k hq)
 subst hq
 have hq2 : ((takenM width rs).take m).length = m := by rw [List.length_take, HW.out.2.2.1]; omega
 have ha2 := areH_sub HW.out.2.1 (fun s hs => List.mem_of_mem_take hs : ∀ s ∈ (takenM width rs).take m, s ∈ takenM width rs)
 have HIN := lH (fun W X d1 (r : Rd W 0 W.heap.size X (strs ((takenM width rs).take m))) (hd : m ≤ d1) => inclusion_c width HW.out.1 513 X d1 0 W.heap.size m k ((takenM width rs).take m) W r hq2 (by omega) (by omega) hd ha2 hkm)
 have HLV2 := lH (fun W (q : NewBox W p [.int .i64 width, .slice E ne ce, .slice R nr cr, .slice H nh ch, .int .i64 z1, .slice A1 m1 c1, .int .i64 z2, .slice A2 m2 c2, .int .i64 h.num, .int .i64 h.size, .string h.root, .int .i64 h.taken, .string h.troot]) (r : Rd W 0 W.heap.size R (rcps rs)) => HTK.out W m q r hmn)
 clear hq2 ha2 HTK HW HOUT HINN HTWO hpr
 generalize incFu width 513 ((takenM width rs).take m) k = il at *
 generalize (takenM width rs).take m = lt at *
 go_wp2
 go_wp2_with fail
 refine wp_named (fun w4 hw => ?_)
 have hz4 : wL.heap.size + 0 ≤ w4.heap.size := by rw [hw]; first | omega | simp [World.setCell] <;> omega
 have hzz4 : w.heap.size ≤ w4.heap.size := by omega
 have hbn : Below wL.heap.size wL w4 := by rw [hw]; exact (by repeat with_reducible first | exact bR _ | apply bA | apply bD)
 replace HB := lH (below_then HB.out hbn HB.out.size)
 replace HOR := lH (HOR.out.below hbn)
 replace HOH := lH (HOH.out.below hbn)
 replace HXb := lH (HXb.out.below hbn)
 clear hxb hfb hkb
 obtain ⟨hkb, hxb, hfb⟩ := HXb.out
 replace HXr := lH (HXr.out.below hbn)
 clear hxr hfr hkr
 obtain ⟨hkr, hxr, hfr⟩ := HXr.out
 replace HXt := lH (HXt.out.below hbn)
 clear hxt hft hkt
 obtain ⟨hkt, hxt, hft⟩ := HXt.out
 clear hbn
 clear hw
 obtain ⟨F, HF⟩ : ∃ F : Facts, Hid (F = fun iq xq tqs dsq uq => match iq with
  | 0 => xq.v = .int .i64 (k : Nat)
  | 1 => xq.v = .pointer (some ⟨p, 0, none⟩)
  | 2 => xq.v = .pointer (some ⟨p, 0, none⟩)
  | 3 => xq.v = .pointer (some ⟨p, 0, none⟩)
  | 4 => xq.v = .int .i64 width
  | 5 => xq.v = .pointer (some ⟨p, 0, none⟩)
  | 6 => xq.v = .int .i64 (m : Nat)
  | 7 => ∃ (X1 : Option Addr) (d1 : Nat), xq.v = .slice X1 m d1 ∧ (RowB uq xq.s xq.e (.slice X1 m d1, m) (strs lt))
  | 8 => xq.v = .int .i64 (k : Nat)
  | 9 => ∃ (X3 : Option Addr) (d3 : Nat), xq.v = .slice X3 il.length d3 ∧ (RowB uq xq.s xq.e (.slice X3 il.length d3, il.length) (strs il))
  | 10 => xq.v = .int .i64 (k : Nat)
  | 11 => (match tqs, dsq with | [], [yq0] => ∃ (X3 : Option Addr) (d3 : Nat), yq0.v = .slice X3 il.length d3 ∧ xq.v = .slice X3 il.length d3 | _, _ => False)
  | 12 => xq.v = .int .i64 0
  | _ => False) := ⟨_, rfl⟩
 refine wp_region_facts [[], [], [], [], [], [], [], [], [], [], [], [9], []] [[], [], [], [], [], [], [], [], [], [], [], [], []] [some 29, some 30, some 31, some 32, some 33, some 34, some 35, some 36, some 37, some 38, some 6, some 7, some 8] none 0 0 (.inl rfl) F (by kernel_rfl) (by kernel_rfl) (by kernel_rfl) ?_ ⟨?_, ?_, ?_, ?_, ?_, ?_, ?_, ?_, ?_, ?_, ?_, ?_, ?_, trivial⟩ ?_
 ·rw [HF.out]; intro iq xq tqs dsq uq u' hi hf hs hW hx hbk
  have kx : ∀ b, xq.s ≤ b → b < xq.e → u'.heap[b]? = uq.heap[b]? := fun b h1 h2 => hbk b (.inr (.inl ⟨h1, h2⟩))
  have kt : ∀ t ∈ tqs, ∀ b, t.s ≤ b → b < t.e → u'.heap[b]? = uq.heap[b]? := fun t ht b h1 h2 => hbk b (.inr (.inr ⟨t, ht, h1, h2⟩))
  match iq with
  | 0 => exact hf
  | 1 => exact hf
  | 2 => exact hf
  | 3 => exact hf
  | 4 => exact hf
  | 5 => exact hf
  | 6 => exact hf
  | 7 => obtain ⟨X1, d1, hv, p0⟩ := hf; exact ⟨X1, d1, hv, p0.keep (fun k _ h1 h2 => kx k h1 h2)⟩
  | 8 => exact hf
  | 9 => obtain ⟨X3, d3, hv, p0⟩ := hf; exact ⟨X3, d3, hv, p0.keep (fun k _ h1 h2 => kx k h1 h2)⟩
  | 10 => exact hf
  | 11 => exact hf
  | 12 => exact hf
 ·intro gh ρ u hc hf1 hg1 hd h0 hb he ha hF
  have r10 : ρ (.tmp 10) = .int .i64 (k : Nat) := (h0 10 (by decide +kernel)).trans rfl
  clear  hd h0 he ha hF
  go_simp
  rw [HF.out]
  exact ⟨OnlyL.refl _ _, rfl⟩
 ·intro gh ρ u hc hf1 hg1 hd h0 hb he ha hF
  have r0 : ρ (.tmp 0) = .pointer (some ⟨p, 0, none⟩) := (h0 0 (by decide +kernel)).trans rfl
  clear  hd h0 he ha hF
  go_simp
  rw [HF.out]
  exact ⟨OnlyL.refl _ _, rfl⟩
 ·intro gh ρ u hc hf1 hg1 hd h0 hb he ha hF
  have r30 : ρ (.tmp 30) = .pointer (some ⟨p, 0, none⟩) := by have h := hF 1 (by decide +kernel) (by decide +kernel); rw [HF.out] at h; exact (hd 1 (by decide +kernel) 30 (by kernel_rfl)).trans h
  clear  hd h0 he ha hF
  go_simp
  rw [HF.out]
  exact ⟨OnlyL.refl _ _, rfl⟩
 ·intro gh ρ u hc hf1 hg1 hd h0 hb he ha hF
  have r31 : ρ (.tmp 31) = .pointer (some ⟨p, 0, none⟩) := by have h := hF 2 (by decide +kernel) (by decide +kernel); rw [HF.out] at h; exact (hd 2 (by decide +kernel) 31 (by kernel_rfl)).trans h
  clear  hd h0 he ha hF
  go_simp
  rw [HF.out]
  exact ⟨OnlyL.refl _ _, rfl⟩
 ·intro gh ρ u hc hf1 hg1 hd h0 hb he ha hF
  replace hb : Below w4.heap.size w4 u := hb.drew.below (by decide +kernel)
  have hbz : w4.heap.size ≤ u.heap.size := hb.size
  have r32 : ρ (.tmp 32) = .pointer (some ⟨p, 0, none⟩) := by have h := hF 3 (by decide +kernel) (by decide +kernel); rw [HF.out] at h; exact (hd 3 (by decide +kernel) 32 (by kernel_rfl)).trans h
  have q_b := (HXb.out.below hb).2.1
  have k_b : p < u.heap.size := by have := HXb.out.1; omega
  have q_t := (HXt.out.below hb).2.1
  have k_t : w.heap.size + 1 < u.heap.size := by have := HXt.out.1; omega
  clear  hd h0 he ha hF
  go_simp
  rw [HF.out]
  exact ⟨OnlyL.refl _ _, rfl⟩
 ·intro gh ρ u hc hf1 hg1 hd h0 hb he ha hF
  have r0 : ρ (.tmp 0) = .pointer (some ⟨p, 0, none⟩) := (h0 0 (by decide +kernel)).trans rfl
  clear  hd h0 he ha hF
  go_simp
  rw [HF.out]
  exact ⟨OnlyL.refl _ _, rfl⟩
 ·intro gh ρ u hc hf1 hg1 hd h0 hb he ha hF
  replace hb : Below w4.heap.size w4 u := hb.drew.below (by decide +kernel)
  have hbz : w4.heap.size ≤ u.heap.size := hb.size
  have r5 : ρ (.tmp 5) = .pointer (some ⟨w.heap.size + 1, 0, none⟩) := (h0 5 (by decide +kernel)).trans rfl
  have q_b := (HXb.out.below hb).2.1
  have k_b : p < u.heap.size := by have := HXb.out.1; omega
  have q_t := (HXt.out.below hb).2.1
  have k_t : w.heap.size + 1 < u.heap.size := by have := HXt.out.1; omega
  clear  hd h0 he ha hF
  go_simp
  rw [HF.out]
  exact ⟨OnlyL.refl _ _, rfl⟩
 ·intro gh ρ u hc hf1 hg1 hd h0 hb he ha hF
  replace hb : Below w4.heap.size w4 u := hb.drew.below (by decide +kernel)
  have hbz : w4.heap.size ≤ u.heap.size := hb.size
  have r34 : ρ (.tmp 34) = .pointer (some ⟨p, 0, none⟩) := by have h := hF 5 (by decide +kernel) (by decide +kernel); rw [HF.out] at h; exact (hd 5 (by decide +kernel) 34 (by kernel_rfl)).trans h
  have r35 : ρ (.tmp 35) = .int .i64 (m : Nat) := by have h := hF 6 (by decide +kernel) (by decide +kernel); rw [HF.out] at h; exact (hd 6 (by decide +kernel) 35 (by kernel_rfl)).trans h
  clear  hd h0 he ha hF
  go_simp
  have q_b := (HXb.out.below hb)
  have q_t := (HXt.out.below hb)
  refine (HLV2.out _ q_b (HOR.out.below hb).base).mono ?_
  rintro e u1 ⟨X1, d1, rfl, ho, hb1⟩
  rw [HF.out]
  exact ⟨_, rfl, OnlyL.of_below hb1, X1, d1, rfl, RowB.of ho⟩
 ·intro gh ρ u hc hf1 hg1 hd h0 hb he ha hF
  have r10 : ρ (.tmp 10) = .int .i64 (k : Nat) := (h0 10 (by decide +kernel)).trans rfl
  clear  hd h0 he ha hF
  go_simp
  rw [HF.out]
  exact ⟨OnlyL.refl _ _, rfl⟩
 ·intro gh ρ u hc hf1 hg1 hd h0 hb he ha hF
  replace hb : Below w4.heap.size w4 u := hb.drew.below (by decide +kernel)
  have hbz : w4.heap.size ≤ u.heap.size := hb.size
  have r33 : ρ (.tmp 33) = .int .i64 width := by have h := hF 4 (by decide +kernel) (by decide +kernel); rw [HF.out] at h; exact (hd 4 (by decide +kernel) 33 (by kernel_rfl)).trans h
  have f7 : ∃ (X1 : Option Addr) (d1 : Nat), (gh 7).v = .slice X1 m d1 ∧ (RowB u (gh 7).s (gh 7).e (.slice X1 m d1, m) (strs lt)) := by have h := hF 7 (by decide +kernel) (by decide +kernel); rw [HF.out] at h; exact h
  obtain ⟨X1, d1, hv7, g7_0⟩ := f7
  have r36 : ρ (.tmp 36) = .slice X1 m d1 := (hd 7 (by decide +kernel) 36 (by kernel_rfl)).trans hv7
  have r37 : ρ (.tmp 37) = .int .i64 (k : Nat) := by have h := hF 8 (by decide +kernel) (by decide +kernel); rw [HF.out] at h; exact (hd 8 (by decide +kernel) 37 (by kernel_rfl)).trans h
  clear hv7 hd h0 he ha hF
  go_simp
  have q_b := (HXb.out.below hb)
  have q_t := (HXt.out.below hb)
  refine (HIN.out _ _ _ (Own.of_ownsRow g7_0.1).rd.base (row_cap g7_0.1)).mono ?_
  rintro e u1 ⟨X3, d3, rfl, ho, hb1⟩
  rw [HF.out]
  exact ⟨_, rfl, OnlyL.of_below hb1, X3, d3, rfl, RowB.of ho⟩
 ·intro gh ρ u hc hf1 hg1 hd h0 hb he ha hF
  have r29 : ρ (.tmp 29) = .int .i64 (k : Nat) := by have h := hF 0 (by decide +kernel) (by decide +kernel); rw [HF.out] at h; exact (hd 0 (by decide +kernel) 29 (by kernel_rfl)).trans h
  clear  hd h0 he ha hF
  go_simp
  rw [HF.out]
  exact ⟨OnlyL.refl _ _, rfl⟩
 ·intro gh ρ u hc hf1 hg1 hd h0 hb he ha hF
  have f9 : ∃ (X3 : Option Addr) (d3 : Nat), (gh 9).v = .slice X3 il.length d3 ∧ (RowB u (gh 9).s (gh 9).e (.slice X3 il.length d3, il.length) (strs il)) := by have h := hF 9 (by decide +kernel) (by decide +kernel); rw [HF.out] at h; exact h
  obtain ⟨X3, d3, hv9, g9_0⟩ := f9
  have hrt9 := hv9
  have r38 : ρ (.tmp 38) = .slice X3 il.length d3 := (hd 9 (by decide +kernel) 38 (by kernel_rfl)).trans hv9
  have HRT9 := lH hrt9
  clear hv9 hrt9 hd h0 he ha hF
  go_simp
  rw [HF.out]
  exact ⟨OnlyL.refl _ _, X3, d3, HRT9.out, rfl⟩
 ·intro gh ρ u hc hf1 hg1 hd h0 hb he ha hF
  clear  hd h0 he ha hF
  go_simp
  rw [HF.out]
  exact ⟨OnlyL.refl _ _, rfl⟩
 intro gh w5 hB hE hA hF
 replace hB : Below w4.heap.size w4 w5 := hB.below rfl
 have f0 : (gh 0).v = .int .i64 (k : Nat) := by have h := hF 0 (by decide +kernel) (by decide +kernel); rw [HF.out] at h; exact h
 have f1 : (gh 1).v = .pointer (some ⟨p, 0, none⟩) := by have h := hF 1 (by decide +kernel) (by decide +kernel); rw [HF.out] at h; exact h
 have f2 : (gh 2).v = .pointer (some ⟨p, 0, none⟩) := by have h := hF 2 (by decide +kernel) (by decide +kernel); rw [HF.out] at h; exact h
 have f3 : (gh 3).v = .pointer (some ⟨p, 0, none⟩) := by have h := hF 3 (by decide +kernel) (by decide +kernel); rw [HF.out] at h; exact h
 have f4 : (gh 4).v = .int .i64 width := by have h := hF 4 (by decide +kernel) (by decide +kernel); rw [HF.out] at h; exact h
 have f5 : (gh 5).v = .pointer (some ⟨p, 0, none⟩) := by have h := hF 5 (by decide +kernel) (by decide +kernel); rw [HF.out] at h; exact h
 have f6 : (gh 6).v = .int .i64 (m : Nat) := by have h := hF 6 (by decide +kernel) (by decide +kernel); rw [HF.out] at h; exact h
 have f7 : ∃ (X1 : Option Addr) (d1 : Nat), (gh 7).v = .slice X1 m d1 ∧ (RowB w5 (gh 7).s (gh 7).e (.slice X1 m d1, m) (strs lt)) := by have h := hF 7 (by decide +kernel) (by decide +kernel); rw [HF.out] at h; exact h
 have f8 : (gh 8).v = .int .i64 (k : Nat) := by have h := hF 8 (by decide +kernel) (by decide +kernel); rw [HF.out] at h; exact h
 have f9 : ∃ (X3 : Option Addr) (d3 : Nat), (gh 9).v = .slice X3 il.length d3 ∧ (RowB w5 (gh 9).s (gh 9).e (.slice X3 il.length d3, il.length) (strs il)) := by have h := hF 9 (by decide +kernel) (by decide +kernel); rw [HF.out] at h; exact h
 have f10 : (gh 10).v = .int .i64 (k : Nat) := by have h := hF 10 (by decide +kernel) (by decide +kernel); rw [HF.out] at h; exact h
 have f11 : ∃ (X3 : Option Addr) (d3 : Nat), (gh 9).v = .slice X3 il.length d3 ∧ (gh 11).v = .slice X3 il.length d3 := by have h := hF 11 (by decide +kernel) (by decide +kernel); rw [HF.out] at h; exact h
 have f12 : (gh 12).v = .int .i64 0 := by have h := hF 12 (by decide +kernel) (by decide +kernel); rw [HF.out] at h; exact h
 obtain ⟨X1, d1, hv7, _⟩ := f7
 obtain ⟨X3, d3, hv9, hr3⟩ := f9
 have hv0 := f0
 have hv1 := f1
 have hv2 := f2
 have hv3 := f3
 have hv4 := f4
 have hv5 := f5
 have hv6 := f6
 have hv8 := f8
 have hv10 := f10
 obtain ⟨X3_11, d3_11, hu9, hv11⟩ := f11
 replace hu9 := hv9.symm.trans hu9
 simp at hu9
 try simp only [and_assoc] at hu9
 obtain ⟨rfl, rfl⟩ := hu9
 have hv12 := f12
 obtain ⟨hs9, hse9, he9⟩ := hE 9 (by decide +kernel)
 change w4.heap.size ≤ _ at hs9
 clear hE hA hF
 simp only [putDs, Nat.reduceAdd, hv0, hv1, hv2, hv3, hv4, hv5, hv6, hv7, hv8, hv9, hv10, hv11, hv12]
 clear hv0 hv1 hv2 hv3 hv4 hv5 hv6 hv7 hv8 hv9 hv10 hv11 hv12
 generalize (gh 9).s = s5_9 at *
 generalize (gh 9).e = e5_9 at *
 clear HF
 have hb := hB
 clear hB
 have hzw5 : w4.heap.size ≤ w5.heap.size := hb.size
 have hzzw5 : w.heap.size ≤ w5.heap.size := by omega
 replace HB := lH (below_then HB.out hb HB.out.size)
 replace HOR := lH (HOR.out.below hb)
 replace HOH := lH (HOH.out.below hb)
 replace HXb := lH (HXb.out.below hb)
 clear hxb hfb hkb
 obtain ⟨hkb, hxb, hfb⟩ := HXb.out
 replace HXr := lH (HXr.out.below hb)
 clear hxr hfr hkr
 obtain ⟨hkr, hxr, hfr⟩ := HXr.out
 replace HXt := lH (HXt.out.below hb)
 clear hxt hft hkt
 obtain ⟨hkt, hxt, hft⟩ := HXt.out
 clear hb
 have HOU : Hid (RowB w5 (s5_9) (e5_9) ((.slice X3 il.length d3, il.length)) (strs il)) := hr3
 have hr39 : e5_9 ≤ w5.heap.size ∧ w.heap.size ≤ s5_9 ∧ s5_9 ≤ e5_9 := by omega
 clear hr3 HLV2 HIN
 go_wp2
 refine bodyPost_named (fun w6 hw => ?_)
 have hz6 : w5.heap.size + 0 ≤ w6.heap.size := by rw [hw]; first | omega | simp [World.setCell] <;> omega
 have hzz6 : w.heap.size ≤ w6.heap.size := by omega
 have hbn : Below w5.heap.size w5 w6 := by rw [hw]; exact (by repeat with_reducible first | exact bR _ | apply bA | apply bD)
 replace HB := lH (below_then HB.out hbn HB.out.size)
 replace HOR := lH (HOR.out.below hbn)
 replace HOH := lH (HOH.out.below hbn)
 replace HOU := lH (HOU.out.below hbn)
 replace HXb := lH (HXb.out.below hbn)
 clear hxb hfb hkb
 obtain ⟨hkb, hxb, hfb⟩ := HXb.out
 replace HXr := lH (HXr.out.below hbn)
 clear hxr hfr hkr
 obtain ⟨hkr, hxr, hfr⟩ := HXr.out
 replace HXt := lH (HXt.out.below hbn)
 clear hxt hft hkt
 obtain ⟨hkt, hxt, hft⟩ := HXt.out
 clear hbn
 clear hw
 refine bodyPost_ret (v := .tuple #[.int .i64 (k : Nat), .slice X3 il.length d3, .int .i64 0]) (by simp [results, Tryz.results36, go_sem]) rfl ?_
 rw [HEQ.out.1, HEQ.out.2.1, HEQ.out.2.2]
 exact ⟨⟨X3, d3, rfl, RowB.room HOU.out, (HOU.out.ownB rfl (by omega) (by omega)).mono (by omega) (by omega) (by omega)⟩, HB.out⟩
end
section
open Go.RowKit
def aoZ (width : Int) (es : List Ent) (rs : List Rcp) (hs : List Hd) (z1 : Int) (l1 : List ByteArray) (z2 : Int) (l2 : List ByteArray) (h : Hd) (r : Rcp) (c : Int) : Int := if brkOk width es rs hs z1 l1 z2 l2 h then auZ rs hs r c else 0
def aoC (width : Int) (es : List Ent) (rs : List Rcp) (hs : List Hd) (z1 : Int) (l1 : List ByteArray) (z2 : Int) (l2 : List ByteArray) (h : Hd) (r : Rcp) (c : Int) : Int := if brkOk width es rs hs z1 l1 z2 l2 h then auC rs hs r c else 1
def aoL (width : Int) (es : List Ent) (rs : List Rcp) (hs : List Hd) (z1 : Int) (l1 : List ByteArray) (z2 : Int) (l2 : List ByteArray) (h : Hd) (r : Rcp) (c : Int) : List ByteArray := if brkOk width es rs hs z1 l1 z2 l2 h then auL width rs hs r c else []
set_option maxRecDepth 100000 in
theorem implAuditOf_c (r : Rcp) (hrf : r.fits) (c : Int) (width z1 z2 : Int) (E R H A1 A2 : Option Addr) (ne nr nh ce cr ch c1 c2 lo1 hi1 lo2 hi2 lo3 hi3 lo4 hi4 lo5 hi5 m1 m2 : Nat) (es : List Ent) (rs : List Rcp) (hs : List Hd) (l1 l2 : List ByteArray) (h : Hd) (w : World) (hE : Rd w lo1 hi1 E (ents es)) (hR : Rd w lo2 hi2 R (rcps rs)) (hH : Rd w lo3 hi3 H (hds hs)) (hA1 : Rd w lo4 hi4 A1 (strs l1)) (hA2 : Rd w lo5 hi5 A2 (strs l2)) (hne : es.length = ne) (hnr : rs.length = nr) (hnh : hs.length = nh) (hm1 : l1.length = m1) (hm2 : l2.length = m2)
  (b1 : ne ≤ 1048576) (b2 : nr ≤ 1048576) (b3 : nh + sumBy Hd.bulk hs ≤ 1048576) (b4 : m1 ≤ 1048576) (b5 : m2 ≤ 1048576) (b6 : ne ≤ ce) (b7 : nr ≤ cr) (b8 : nh ≤ ch) (hfe : ∀ x ∈ es, x.fits) (hfr : ∀ x ∈ rs, x.fits) (hfh : ∀ x ∈ hs, x.fits) (hf : h.fits) (hsb : h.bulk ≤ 1048576) :
  Calls Tryz.prog 12 #[.agg #[.int .i64 width, .slice E ne ce, .slice R nr cr, .slice H nh ch, .int .i64 z1, .slice A1 m1 c1, .int .i64 z2, .slice A2 m2 c2, .int .i64 h.num, .int .i64 h.size, .string h.root, .int .i64 h.taken, .string h.troot], .agg #[.string r.reader, .string r.topic, .int .i64 r.index], .int .i64 c] w (AuPost w (aoZ width es rs hs z1 l1 z2 l2 h r c) (aoL width es rs hs z1 l1 z2 l2 h r c) (aoC width es rs hs z1 l1 z2 l2 h r c)) := by
 have HBK := lH (fun W (r0 : Rd W 0 W.heap.size E (ents es)) (r1 : Rd W 0 W.heap.size R (rcps rs)) (r2 : Rd W 0 W.heap.size H (hds hs)) (r3 : Rd W 0 W.heap.size A1 (strs l1)) (r4 : Rd W 0 W.heap.size A2 (strs l2)) => implBrokerOk_c width z1 z2 E R H A1 A2 ne nr nh ce cr ch c1 c2 0 W.heap.size 0 W.heap.size 0 W.heap.size 0 W.heap.size 0 W.heap.size m1 m2 es rs hs l1 l2 h W r0 r1 r2 r3 r4 hne hnr hnh hm1 hm2 b1 b2 b3 b4 b5 b6 b7 b8 hfe hfr hfh hf hsb)
 have HD0 : Hid (aoZ width es rs hs z1 l1 z2 l2 h r c = if brkOk width es rs hs z1 l1 z2 l2 h then auZ rs hs r c else 0) := lH rfl
 have HD1 : Hid (aoL width es rs hs z1 l1 z2 l2 h r c = if brkOk width es rs hs z1 l1 z2 l2 h then auL width rs hs r c else []) := lH rfl
 have HD3 : Hid (aoC width es rs hs z1 l1 z2 l2 h r c = if brkOk width es rs hs z1 l1 z2 l2 h then auC rs hs r c else 1) := lH rfl
 have HBC := lH (fun (hb : brkOk width es rs hs z1 l1 z2 l2 h = true) W p (q : NewBox W p [.int .i64 width, .slice E ne ce, .slice R nr cr, .slice H nh ch, .int .i64 z1, .slice A1 m1 c1, .int .i64 z2, .slice A2 m2 c2, .int .i64 h.num, .int .i64 h.size, .string h.root, .int .i64 h.taken, .string h.troot]) (r1 : Rd W 0 W.heap.size R (rcps rs)) (r2 : Rd W 0 W.heap.size H (hds hs)) => audit_c width z1 z2 p E R H A1 A2 ne nr nh ce cr ch c1 c2 0 W.heap.size 0 W.heap.size m1 m2 es rs hs h r c W q r1 r2 hnr hnh b2 (by omega) b7 hfr hrf (brkOk_parts hb))
 generalize brkOk width es rs hs z1 l1 z2 l2 h = bk at *
 generalize aoZ width es rs hs z1 l1 z2 l2 h r c = v0 at *
 generalize aoL width es rs hs z1 l1 z2 l2 h r c = v1 at *
 generalize aoC width es rs hs z1 l1 z2 l2 h r c = v3 at *
 generalize auZ rs hs r c = t0 at *
 generalize auL width rs hs r c = t1 at *
 generalize auC rs hs r c = t3 at *
 have HB : Hid (Below w.heap.size w w) := Below.refl _ _
 have HOE : Hid (Rd w (0) (w.heap.size) (E) (ents es)) := Rd.base hE
 have HOR : Hid (Rd w (0) (w.heap.size) (R) (rcps rs)) := Rd.base hR
 have HOH : Hid (Rd w (0) (w.heap.size) (H) (hds hs)) := Rd.base hH
 have HOX : Hid (Rd w (0) (w.heap.size) (A1) (strs l1)) := Rd.base hA1
 have HOY : Hid (Rd w (0) (w.heap.size) (A2) (strs l2)) := Rd.base hA2
 clear hE hR hH hA1 hA2
 clear hne hnr hnh hm1 hm2 hfe hfr hfh hf hrf
 go_enter Tryz.func12, Tryz.ntmps12
 go_wp2_with fail
 refine calls_named (fun w1 hw => ?_)
 have hz1 : w.heap.size + 2 ≤ w1.heap.size := by rw [hw]; first | omega | simp [World.setCell] <;> omega
 have hzz1 : w.heap.size ≤ w1.heap.size := by omega
 have hbn : Below w.heap.size w w1 := by rw [hw]; exact (by repeat with_reducible first | exact bR _ | apply bA | apply bD)
 replace HB := lH (below_then HB.out hbn HB.out.size)
 replace HOE := lH (HOE.out.below hbn)
 replace HOR := lH (HOR.out.below hbn)
 replace HOH := lH (HOH.out.below hbn)
 replace HOX := lH (HOX.out.below hbn)
 replace HOY := lH (HOY.out.below hbn)
 clear hbn
 have HXb : Hid (NewBox w1 (w.heap.size) [.int .i64 width, .slice E ne ce, .slice R nr cr, .slice H nh ch, .int .i64 z1, .slice A1 m1 c1, .int .i64 z2, .slice A2 m2 c2, .int .i64 h.num, .int .i64 h.size, .string h.root, .int .i64 h.taken, .string h.troot]) := by rw [Hid, hw]; exact ⟨by first | omega | (simp [World.setCell]; done) | (simp [World.setCell]; omega), fun o => by rcases o with _ | _ | _ | _ | _ | _ | _ | _ | _ | _ | _ | _ | _ | o <;> go_simp, fun o => by go_simp⟩
 obtain ⟨hkb, hxb, hfb⟩ := HXb.out
 have HXr : Hid (NewBox w1 (w.heap.size + 1) [.string r.reader, .string r.topic, .int .i64 r.index]) := by rw [Hid, hw]; exact ⟨by first | omega | (simp [World.setCell]; done) | (simp [World.setCell]; omega), fun o => by rcases o with _ | _ | _ | o <;> go_simp, fun o => by go_simp⟩
 obtain ⟨hkr, hxr, hfr⟩ := HXr.out
 clear hw
 refine (HBK.out _ HOE.out.base HOR.out.base HOH.out.base HOX.out.base HOY.out.base).mono ?_
 rintro e w2 ⟨rfl, hb⟩
 have hzw2 : w1.heap.size ≤ w2.heap.size := hb.size
 have hzzw2 : w.heap.size ≤ w2.heap.size := by omega
 replace HB := lH (below_then HB.out hb HB.out.size)
 replace HOE := lH (HOE.out.below hb)
 replace HOR := lH (HOR.out.below hb)
 replace HOH := lH (HOH.out.below hb)
 replace HOX := lH (HOX.out.below hb)
 replace HOY := lH (HOY.out.below hb)
 replace HXb := lH (HXb.out.below hb)
 clear hxb hfb hkb
 obtain ⟨hkb, hxb, hfb⟩ := HXb.out
 replace HXr := lH (HXr.out.below hb)
 clear hxr hfr hkr
 obtain ⟨hkr, hxr, hfr⟩ := HXr.out
 clear hb
 clear HOX
 clear HOY
 clear HOE
 clear HBK
 rcases bk with _ | _
 ·have HEQ : Hid (v3 = 1 ∧ v0 = 0 ∧ v1 = []) := lH ⟨HD3.out, HD0.out, HD1.out⟩
  clear HBC HD0 HD1 HD3
  go_wp2
  refine bodyPost_named (fun w3 hw => ?_)
  have hz3 : w2.heap.size + 0 ≤ w3.heap.size := by rw [hw]; first | omega | simp [World.setCell] <;> omega
  have hzz3 : w.heap.size ≤ w3.heap.size := by omega
  have hbn : Below w2.heap.size w2 w3 := by rw [hw]; exact (by repeat with_reducible first | exact bR _ | apply bA | apply bD)
  replace HB := lH (below_then HB.out hbn HB.out.size)
  replace HOR := lH (HOR.out.below hbn)
  replace HOH := lH (HOH.out.below hbn)
  replace HXb := lH (HXb.out.below hbn)
  clear hxb hfb hkb
  obtain ⟨hkb, hxb, hfb⟩ := HXb.out
  replace HXr := lH (HXr.out.below hbn)
  clear hxr hfr hkr
  obtain ⟨hkr, hxr, hfr⟩ := HXr.out
  clear hbn
  clear hw
  refine bodyPost_ret (v := .tuple #[.int .i64 0, .slice none 0 0, .int .i64 1]) (by simp [results, Tryz.results12, go_sem]) rfl ?_
  rw [HEQ.out.1, HEQ.out.2.1, HEQ.out.2.2]
  exact au_none _ _ HB.out 1
 ·have e0 : v0 = t0 := HD0.out
  have e1 : v1 = t1 := HD1.out
  have e3 : v3 = t3 := HD3.out
  subst e0 e1 e3
  clear HD0 HD1 HD3
  go_wp2_with fail
  refine calls_named (fun w3 hw => ?_)
  have hz3 : w2.heap.size + 0 ≤ w3.heap.size := by rw [hw]; first | omega | simp [World.setCell] <;> omega
  have hzz3 : w.heap.size ≤ w3.heap.size := by omega
  have hbn : Below w2.heap.size w2 w3 := by rw [hw]; exact (by repeat with_reducible first | exact bR _ | apply bA | apply bD)
  replace HB := lH (below_then HB.out hbn HB.out.size)
  replace HOR := lH (HOR.out.below hbn)
  replace HOH := lH (HOH.out.below hbn)
  replace HXb := lH (HXb.out.below hbn)
  clear hxb hfb hkb
  obtain ⟨hkb, hxb, hfb⟩ := HXb.out
  replace HXr := lH (HXr.out.below hbn)
  clear hxr hfr hkr
  obtain ⟨hkr, hxr, hfr⟩ := HXr.out
  clear hbn
  clear hw
  refine (HBC.out (by first | trivial | rfl) _ _ HXb.out HOR.out.base HOH.out.base).mono ?_
  rintro e w4 ⟨⟨A3, c3, rfl, hcap, ho⟩, hb⟩
  have hzw4 : w3.heap.size ≤ w4.heap.size := hb.size
  have hzzw4 : w.heap.size ≤ w4.heap.size := by omega
  replace HB := lH (below_then HB.out hb HB.out.size)
  replace HOR := lH (HOR.out.below hb)
  replace HOH := lH (HOH.out.below hb)
  replace HXb := lH (HXb.out.below hb)
  clear hxb hfb hkb
  obtain ⟨hkb, hxb, hfb⟩ := HXb.out
  replace HXr := lH (HXr.out.below hb)
  clear hxr hfr hkr
  obtain ⟨hkr, hxr, hfr⟩ := HXr.out
  clear hb
  have HOU : Hid (Own w4 (w3.heap.size) (w4.heap.size) (A3) (strs v1)) := ho
  have HCAP := lH hcap
  clear ho HBC hcap
  go_wp2
  refine bodyPost_named (fun w5 hw => ?_)
  have hz5 : w4.heap.size + 0 ≤ w5.heap.size := by rw [hw]; first | omega | simp [World.setCell] <;> omega
  have hzz5 : w.heap.size ≤ w5.heap.size := by omega
  have hbn : Below w4.heap.size w4 w5 := by rw [hw]; exact (by repeat with_reducible first | exact bR _ | apply bA | apply bD)
  replace HB := lH (below_then HB.out hbn HB.out.size)
  replace HOR := lH (HOR.out.below hbn)
  replace HOH := lH (HOH.out.below hbn)
  replace HOU := lH (HOU.out.below hbn)
  replace HXb := lH (HXb.out.below hbn)
  clear hxb hfb hkb
  obtain ⟨hkb, hxb, hfb⟩ := HXb.out
  replace HXr := lH (HXr.out.below hbn)
  clear hxr hfr hkr
  obtain ⟨hkr, hxr, hfr⟩ := HXr.out
  clear hbn
  clear hw
  refine bodyPost_ret (v := .tuple #[.int .i64 v0, .slice A3 v1.length c3, .int .i64 v3]) (by simp [results, Tryz.results12, go_sem]) rfl ?_
  exact ⟨⟨A3, c3, rfl, HCAP.out, HOU.out.mono (by omega) (by omega) (by omega)⟩, HB.out⟩
theorem rcpPos_snoc {r x : Rcp} (hx : ¬ x = r) : ∀ (l : List Rcp) (j : Nat), rcpPos r (l ++ [x]) j = rcpPos r l j
 | [], j => by rw [List.nil_append]; show (if x = r then (j : Int) else rcpPos r [] (j + 1)) = rcpPos r [] j; rw [if_neg hx]; rfl
 | y :: l, j => by rw [List.cons_append, rcpPos, rcpPos, rcpPos_snoc hx l]
section
variable {width : Int} {es : List Ent} {rs : List Rcp} {hs : List Hd}
theorem auI_at (h : BrkParts width es rs hs) {k : Nat} {r : Rcp} (hr : rs[k]? = some r) {t : Nat} (ht : k < t) : auI rs r t = k := by
 rw [auI, Int.toNat_natCast]
 refine (rcpPos_self (by rw [List.getElem?_take_of_lt ht]; exact hr)).2 ?_
 rw [List.take_take, Nat.min_eq_left (Nat.le_of_lt ht)]
 exact (rcpsOk_at h.rcps hr).2
theorem auI_yes (h : BrkParts width es rs hs) {k : Nat} {r : Rcp} (hr : rs[k]? = some r) : auI rs r ((k + 1 : Nat) : Int) = k := auI_at h hr (Nat.lt_succ_self _)
theorem auI_no {k : Nat} {x r : Rcp} (hx : rs[k]? = some x) (hn : ¬ x = r) : auI rs r ((k + 1 : Nat) : Int) = auI rs r (k : Nat) := by
 rw [auI, auI, Int.toNat_natCast, Int.toNat_natCast, take_succ hx, rcpPos_snoc hn]
theorem has_tk {x : Hd} (hx : x ∈ hs) : hasTk hs x.taken = true := by
 rw [hasTk, List.any_eq_true]
 exact ⟨x, hx, beq_self_eq_true _⟩
theorem aud_ok (h : BrkParts width es rs hs) {i : Nat} {x : Hd} (hx : hs[i]? = some x) {t k : Nat} (ht : x.taken = (t : Int)) (hk : k < t) {r : Rcp} (hr : rs[k]? = some r) :
  auC rs hs r t = 0 ∧ auZ rs hs r t = k ∧ inOk width t k (rcpHashM width r) (auL width rs hs r t) = true ∧ inRt width t k (rcpHashM width r) (auL width rs hs r t) = x.troot := by
 obtain ⟨s, t', h1, h2, h3, h4, h5, h6⟩ := hd_at h hx
 obtain rfl : t' = t := by omega
 have h7 := has_tk (List.mem_of_getElem? hx)
 rw [ht] at h7
 obtain ⟨a1, a2, a3⟩ := au_in width h7 (auI_at h hr hk)
 have h8 : ((takenM width rs).take t').length = t' := by rw [List.length_take, takenM_len]; omega
 have h9 : ((takenM width rs).take t')[k]? = some (rcpHashM width r) := by rw [List.getElem?_take_of_lt hk, takenM, List.getElem?_map, hr]; rfl
 have h10 := rcpsOk_len h.rcps
 obtain ⟨b1, b2⟩ := incl_ok h.wd h8 (by omega) (areH_sub (takenM_are h.wd h.rcps) (fun s hs => List.mem_of_mem_take hs)) h9
 rw [a3]
 exact ⟨a1, a2, b1, b2.trans h6.symm⟩
theorem aud_any (h : BrkParts width es rs hs) {i : Nat} {x : Hd} (hx : hs[i]? = some x) {t : Nat} (ht : x.taken = (t : Int)) (r : Rcp) :
  (auI rs r t = -1 ∧ auC rs hs r t = 3) ∨ ∃ k : Nat, k < t ∧ auI rs r t = k ∧ auC rs hs r t = 0 ∧ auZ rs hs r t = k := by
 have h7 := has_tk (List.mem_of_getElem? hx)
 rw [ht] at h7
 rcases auI_two rs r t with h1 | ⟨k, h1, h2⟩
 ·exact .inl ⟨h1, (au_out width h7 (by omega)).1⟩
 ·obtain ⟨a1, a2, _⟩ := au_in width h7 h2
  exact .inr ⟨k, h1, h2, a1, a2⟩
theorem auL_len (h : BrkParts width es rs hs) {r : Rcp} {c : Int} : (auL width rs hs r c).length ≤ 512 := by
 rw [auL]
 split
 ·have h5 := rcpsOk_len h.rcps
  have hl : ((takenM width rs).take c.toNat).length ≤ 512 := by rw [List.length_take, takenM_len]; omega
  exact Nat.le_trans (inc_le rfl hl) hl
 ·exact Nat.zero_le _
theorem ao_eq (h : BrkParts width es rs hs) (r : Rcp) (c : Int) :
  aoC width es rs hs (lastHd hs).size (pk1 width es hs) (lastHd hs).taken (pk2 width rs hs) (lastHd hs) r c = auC rs hs r c ∧ aoZ width es rs hs (lastHd hs).size (pk1 width es hs) (lastHd hs).taken (pk2 width rs hs) (lastHd hs) r c = auZ rs hs r c ∧
  aoL width es rs hs (lastHd hs).size (pk1 width es hs) (lastHd hs).taken (pk2 width rs hs) (lastHd hs) r c = auL width rs hs r c := by
 rw [aoC, aoZ, aoL, if_pos h.ok, if_pos h.ok, if_pos h.ok]; exact ⟨rfl, rfl, rfl⟩
end
theorem auditB_c (width : Int) (E R H A1 A2 : Option Addr) (ne nr nh ce cr ch c1 c2 m1 m2 : Nat) (es : List Ent) (rs : List Rcp) (hs : List Hd) (l1 l2 : List ByteArray) (h : Hd) (r : Rcp) (hrf : r.fits) (c : Int) (W : World) (hk : BrkK W 0 W.heap.size ⟨E, R, H, A1, A2, ce, cr, ch, c1, c2⟩ ⟨width, es, rs, hs⟩) (hne : es.length = ne) (hnr : rs.length = nr) (hnh : hs.length = nh) (hl1 : pk1 width es hs = l1) (hl2 : pk2 width rs hs = l2) (hm1 : l1.length = m1) (hm2 : l2.length = m2) (hh : lastHd hs = h) :
  Calls Tryz.prog 12 #[.agg #[.int .i64 width, .slice E ne ce, .slice R nr cr, .slice H nh ch, .int .i64 h.size, .slice A1 m1 c1, .int .i64 h.taken, .slice A2 m2 c2, .int .i64 h.num, .int .i64 h.size, .string h.root, .int .i64 h.taken, .string h.troot], .agg #[.string r.reader, .string r.topic, .int .i64 r.index], .int .i64 c] W (AuPost W (auZ rs hs r c) (auL width rs hs r c) (auC rs hs r c)) := by
 obtain ⟨f1, f2, f3, g1, g2, g3, g4, f4, g5, g6, g7⟩ := parts_fits hk.ok
 dsimp only at f1 f2 f3 g1 g2 g3 g4 f4 g5 g6 g7
 subst hne
 subst hnr
 subst hnh
 subst hl1
 subst hl2
 subst hm1
 subst hm2
 subst hh
 obtain ⟨q1, q2, q3⟩ := ao_eq hk.ok r c
 have h9 := implAuditOf_c r hrf c width (lastHd hs).size (lastHd hs).taken E R H A1 A2 es.length rs.length hs.length ce cr ch c1 c2 0 W.heap.size 0 W.heap.size 0 W.heap.size 0 W.heap.size 0 W.heap.size (pk1 width es hs).length (pk2 width rs hs).length es rs hs (pk1 width es hs) (pk2 width rs hs) (lastHd hs) W hk.rE hk.rR hk.rH hk.r1 hk.r2 rfl rfl rfl rfl rfl (by omega) (by omega) (by omega) (by omega) (by omega) hk.kE hk.kR hk.kH f1 f2 f3 f4 (by omega)
 dsimp only at q1 q2 q3
 rw [q1, q2, q3] at h9
 exact h9
end
end Go.Proofs.YtoccjgcokffkbaaGreat
