/- Right brokers: the model and the plain law. m[k]++ at a map of the call's own, whose key is a struct: entry, look-up and store in any order. Receipts and heads as keys; '==' on them. Receipts that are right, none twice: receiptsOk of the program (with its map), l12ReceiptsOk of the reference; their hashes. Hashes of receipts. Alike ranges, alike seals; the last head. The last head of a broker. -/
import Derived.Test.YtmmepogjocfefaaGreatTrees
import Derived.Test.YtmmepogjocfefaaGreatRcp
import Derived.Test.YtmmepogjocfefaaGreatHds4
import Derived.Test.YtmmepogjocfefaaGreatHsh
import Derived.Test.YtmmepogjocfefaaGreatFnA5
import Derived.Test.YtmmepogjocfefaaGreatSealM
import Derived.Test.YtmmepogjocfefaaGreatLogOk
import Derived.DeepKeys4
import Derived.WideKeyEntry
import Derived.Test.YtmmepogjocfefaaGreatApp
import Derived.Test.YtmmepogjocfefaaGreatReg
namespace Go.Proofs.YtmmepogjocfefaaGreat
set_option linter.unusedVariables false
set_option linter.unusedSimpArgs false

theorem Rcp.eq_of {a b : Rcp} (h1 : a.reader = b.reader) (h2 : a.topic = b.topic) (h3 : a.index = b.index) : a = b := by cases a; cases b; simp only at h1 h2 h3; rw [h1, h2, h3]
instance rcpDec : DecidableEq Rcp := fun a b =>
 if h : a.reader = b.reader ∧ a.topic = b.topic ∧ a.index = b.index then isTrue (Rcp.eq_of h.1 h.2.1 h.2.2) else isFalse (fun e => h (by rw [e]; exact ⟨rfl, rfl, rfl⟩))
theorem Hd.eq_of {a b : Hd} (h1 : a.num = b.num) (h2 : a.size = b.size) (h3 : a.root = b.root) (h4 : a.taken = b.taken) (h5 : a.troot = b.troot) : a = b := by cases a; cases b; simp only at h1 h2 h3 h4 h5; rw [h1, h2, h3, h4, h5]
instance hdDec : DecidableEq Hd := fun a b =>
 if h : a.num = b.num ∧ a.size = b.size ∧ a.root = b.root ∧ a.taken = b.taken ∧ a.troot = b.troot then isTrue (Hd.eq_of h.1 h.2.1 h.2.2.1 h.2.2.2.1 h.2.2.2.2) else isFalse (fun e => h (by rw [e]; exact ⟨rfl, rfl, rfl, rfl, rfl⟩))
/-! receipts: each right, none twice -/
def rcpAt (l : List Rcp) (k : Nat) : Bool := match l[k]? with
 | some r => rcpOk r && decide (r ∉ l.take k)
 | none => true
def rcpsTo (l : List Rcp) (k : Nat) : Bool := (List.range k).all (rcpAt l)
def rcpsOk (l : List Rcp) : Bool := decide (l.length ≤ 512) && rcpsTo l l.length
theorem rcpsTo_succ (l : List Rcp) (k : Nat) : rcpsTo l (k + 1) = (rcpsTo l k && rcpAt l k) := by
 simp [rcpsTo, List.range_succ]
theorem rcpAt_eq {l : List Rcp} {k : Nat} {r : Rcp} (h : l[k]? = some r) : rcpAt l k = (rcpOk r && decide (r ∉ l.take k)) := by rw [rcpAt, h]
theorem rcpsTo_bad {l : List Rcp} {k n : Nat} (hk : k < n) (h : rcpAt l k = false) : rcpsTo l n = false := by
 rw [rcpsTo, List.all_eq_false]
 exact ⟨k, List.mem_range.2 hk, by simp [h]⟩
theorem rcpsOk_bad {l : List Rcp} {k : Nat} (hk : k < l.length) (h : rcpAt l k = false) : rcpsOk l = false := by rw [rcpsOk, rcpsTo_bad hk h, Bool.and_false]
theorem rcpsOk_len {l : List Rcp} (h : rcpsOk l = true) : l.length ≤ 512 := by rw [rcpsOk, Bool.and_eq_true] at h; simpa using h.1
theorem rcpsOk_big {l : List Rcp} (h : 512 < l.length) : rcpsOk l = false := by rw [rcpsOk]; simp; omega
theorem rcpsOk_at {l : List Rcp} (h : rcpsOk l = true) {k : Nat} {r : Rcp} (hr : l[k]? = some r) : rcpOk r = true ∧ r ∉ l.take k := by
 rw [rcpsOk, Bool.and_eq_true, rcpsTo, List.all_eq_true] at h
 have := h.2 k (List.mem_range.2 (List.getElem?_eq_some_iff.1 hr).1)
 rw [rcpAt_eq hr, Bool.and_eq_true] at this
 exact ⟨this.1, of_decide_eq_true this.2⟩
theorem rcpsOk_mem {l : List Rcp} (h : rcpsOk l = true) : ∀ r ∈ l, rcpOk r = true := fun r hr => by
 obtain ⟨k, hk⟩ := List.mem_iff_getElem?.1 hr
 exact (rcpsOk_at h hk).1
theorem logOk_mem {l : List Ent} (h : logOk l = true) : ∀ e ∈ l, entryOk e = true := fun e he => by
 obtain ⟨k, hk⟩ := List.mem_iff_getElem?.1 he
 rw [logOk, Bool.and_eq_true, rightTo, List.all_eq_true] at h
 have := h.2 k (List.mem_range.2 (List.getElem?_eq_some_iff.1 hk).1)
 rw [rightAt_eq hk, Bool.and_eq_true] at this
 exact this.1
/-! hashes of leaves -/
theorem digM_w {width tag : Int} {t : ByteArray} (hw : inR width 1 32 = true) (h : digOk width tag t = true) : ((digM width tag t).size : Int) = width := by
 have := digM_size h
 have := inR_true.1 hw
 omega
theorem leafHash_size {width : Int} {e : Ent} (hw : inR width 1 32 = true) (h : entryOk e = true) : ((leafHashM width e).size : Int) = width := by
 rw [leafHashM, if_pos h]
 refine digM_w hw ?_
 have := leafTextM_size e
 rw [digOk, hw, Bool.true_and, Bool.and_eq_true]
 exact ⟨by decide, decide_eq_true (by omega)⟩
theorem rcpHash_size {width : Int} {e : Rcp} (hw : inR width 1 32 = true) (h : rcpOk e = true) : ((rcpHashM width e).size : Int) = width := by
 rw [rcpHashM, if_pos h]
 refine digM_w hw ?_
 have := rcpTextM_size e
 rw [digOk, hw, Bool.true_and, Bool.and_eq_true]
 exact ⟨by decide, decide_eq_true (by omega)⟩
def leavesM (width : Int) (l : List Ent) : List ByteArray := l.map (leafHashM width)
def takenM (width : Int) (l : List Rcp) : List ByteArray := l.map (rcpHashM width)
theorem leavesM_are {width : Int} {l : List Ent} (hw : inR width 1 32 = true) (h : logOk l = true) : areH width (leavesM width l) = true := areH_of fun s hs => by
 obtain ⟨e, he, rfl⟩ := List.mem_map.1 hs
 exact leafHash_size hw (logOk_mem h e he)
theorem takenM_are {width : Int} {l : List Rcp} (hw : inR width 1 32 = true) (h : rcpsOk l = true) : areH width (takenM width l) = true := areH_of fun s hs => by
 obtain ⟨e, he, rfl⟩ := List.mem_map.1 hs
 exact rcpHash_size hw (rcpsOk_mem h e he)
theorem leavesM_len (width : Int) (l : List Ent) : (leavesM width l).length = l.length := List.length_map _
theorem takenM_len (width : Int) (l : List Rcp) : (takenM width l).length = l.length := List.length_map _
/-! a range that grows in two parts -/
theorem growUp_more {width : Int} {L M : List ByteArray} {n : Nat} : ∀ k : Nat, (∀ i, i < k → M.getD i ByteArray.empty = L.getD (n + i) ByteArray.empty) → growUp width n (growUp width 0 [] L n) M k = growUp width 0 [] L (n + k)
 | 0, _ => rfl
 | k + 1, h => by
   rw [growUp, growUp_more k (fun i hi => h i (by omega)), h k (by omega), show n + (k + 1) = (n + k) + 1 by omega, growUp, Nat.zero_add]
theorem growUp_part {width : Int} {L : List ByteArray} {n m : Nat} (h : n ≤ m) (hm : m ≤ L.length) : growUp width n (growUp width 0 [] L n) ((L.drop n).take (m - n)) (m - n) = growUp width 0 [] L m := by
 rw [growUp_more (L := L) (m - n) (fun i hi => ?_), show n + (m - n) = m by omega]
 rw [List.getD_eq_getElem?_getD, List.getD_eq_getElem?_getD, List.getElem?_take_of_lt hi, List.getElem?_drop]
/-! heads -/
theorem headsOk_at {width : Int} {l : List Hd} (h : headsOk width l = true) {k : Nat} {x : Hd} (hx : l[k]? = some x) : x.num = (k : Int) ∧ headOk width x = true ∧ ∀ p, 0 < k → l[k - 1]? = some p → p.size ≤ x.size ∧ p.taken ≤ x.taken ∧ followsM width p x = true := by
 rw [headsOk, Bool.and_eq_true] at h
 have hk := (List.getElem?_eq_some_iff.1 hx).1
 have h1 := headsUp_le (n := l.length) (k := k + 1) (by omega) h.2
 rw [headsUp, Bool.and_eq_true] at h1
 rcases Nat.eq_zero_or_pos k with h0 | h0
 ·subst h0
  have := h1.2
  rw [headAt_0 hx, Bool.and_eq_true] at this
  exact ⟨by simpa using this.1, this.2, fun p hp => by omega⟩
 ·obtain ⟨p, hp⟩ : ∃ p, l[k - 1]? = some p := ⟨_, List.getElem?_eq_getElem (by omega)⟩
  have h2 := h1.2
  rw [headAt_s hx hp (by omega), Bool.and_eq_true, Bool.and_eq_true] at h2
  refine ⟨by simpa using h2.1.1, h2.1.2, fun p' _ hp' => ?_⟩
  obtain rfl : p = p' := Option.some.inj (hp.symm.trans hp')
  have h3 := h2.2
  refine ⟨?_, ?_, h3⟩ <;>
  ·simp only [followsM, aheadM, Bool.and_eq_true, Bool.not_eq_true', Bool.or_eq_false_iff, decide_eq_false_iff_not] at h3
   omega
def headZero (width : Int) : Hd := ⟨0, 0, emptyT width, 0, emptyT width⟩
/-- a head's sizes and roots are those of the hashes -/
def rootsAt (width : Int) (L T : List ByteArray) (h : Hd) : Bool := decide (h.size ≤ (L.length : Nat)) && (decide (h.taken ≤ (T.length : Nat)) && (decide (h.root = rootFu width 513 (L.take h.size.toNat)) && decide (h.troot = rootFu width 513 (T.take h.taken.toNat))))
def rootsTo (width : Int) (L T : List ByteArray) (hs : List Hd) (k : Nat) : Bool := (hs.take k).all (rootsAt width L T)
theorem rootsTo_succ {width : Int} {L T : List ByteArray} {hs : List Hd} {k : Nat} {x : Hd} (hx : hs[k]? = some x) : rootsTo width L T hs (k + 1) = (rootsTo width L T hs k && rootsAt width L T x) := by
 rw [rootsTo, take_succ hx, List.all_append, rootsTo]; simp
theorem rootsTo_le {width : Int} {L T : List ByteArray} {hs : List Hd} {k n : Nat} (hk : k ≤ n) (h : rootsTo width L T hs n = true) : rootsTo width L T hs k = true := by
 rw [rootsTo, List.all_eq_true] at *
 intro x hx
 refine h x ?_
 rw [show k = min k n by omega, ← List.take_take] at hx
 exact List.mem_of_mem_take hx
def rootsOk (width : Int) (L T : List ByteArray) (hs : List Hd) : Bool := decide (hs[0]? = some (headZero width)) && rootsTo width L T hs hs.length
theorem rootsOk_no {width : Int} {L T : List ByteArray} {hs : List Hd} {k : Nat} {x : Hd} (hx : hs[k]? = some x) (h : rootsAt width L T x = false) : rootsOk width L T hs = false := by
 rcases hh : rootsOk width L T hs with _ | _
 ·rfl
 ·rw [rootsOk, Bool.and_eq_true] at hh
  have := rootsTo_le (k := k + 1) (by have := (List.getElem?_eq_some_iff.1 hx).1; omega) hh.2
  rw [rootsTo_succ hx, h, Bool.and_false] at this
  cases this
theorem headZero_roots (width : Int) (L T : List ByteArray) : rootsAt width L T (headZero width) = true := by
 rw [rootsAt, decide_eq_true (show (headZero width).size ≤ _ from Int.natCast_nonneg _), decide_eq_true (show (headZero width).taken ≤ _ from Int.natCast_nonneg _)]
 rw [show (headZero width).size.toNat = 0 from rfl, show (headZero width).taken.toNat = 0 from rfl, List.take_zero, List.take_zero, fu_zero rfl]
 rw [decide_eq_true (show (headZero width).root = emptyT width from rfl), decide_eq_true (show (headZero width).troot = emptyT width from rfl)]; rfl
theorem rootsAt_all {width : Int} {L T : List ByteArray} {h : Hd} (hr : rootsAt width L T h = true) : h.size ≤ (L.length : Nat) ∧ h.taken ≤ (T.length : Nat) ∧ h.root = rootFu width 513 (L.take h.size.toNat) ∧ h.troot = rootFu width 513 (T.take h.taken.toNat) := by
 rw [rootsAt, Bool.and_eq_true, Bool.and_eq_true, Bool.and_eq_true] at hr
 exact ⟨of_decide_eq_true hr.1, of_decide_eq_true hr.2.1, of_decide_eq_true hr.2.2.1, of_decide_eq_true hr.2.2.2⟩
/-- the last head -/
def lastHd (hs : List Hd) : Hd := hs.getD (hs.length - 1) noHd
theorem lastHd_get {hs : List Hd} (h : 0 < hs.length) : hs[hs.length - 1]? = some (lastHd hs) := by
 rw [lastHd, List.getD_eq_getElem?_getD, List.getElem?_eq_getElem (by omega)]; rfl
/-- the head behind k heads, as the sealing has it -/
def prevHd (width : Int) (hs : List Hd) (k : Nat) : Hd := if k = 0 then headZero width else hs.getD (k - 1) noHd
theorem prevHd_0 (width : Int) (hs : List Hd) : prevHd width hs 0 = headZero width := rfl
theorem prevHd_s {width : Int} {hs : List Hd} {k : Nat} {x : Hd} (hx : hs[k]? = some x) : prevHd width hs (k + 1) = x := by
 rw [prevHd, if_neg (by omega), List.getD_eq_getElem?_getD, Nat.add_sub_cancel, hx]; rfl
theorem prevHd_last {width : Int} {hs : List Hd} (h : 0 < hs.length) : prevHd width hs hs.length = lastHd hs := by
 rw [prevHd, if_neg (by omega), lastHd]
/-- where a receipt's entry lies -/
def leafIn (es : List Ent) (m : Nat) (r : Rcp) : Bool := decide (0 ≤ firstFrom (isTI r.topic r.index) (es.take m) 0)
theorem firstFrom_ge {p : Ent → Bool} : ∀ (l : List Ent) (j : Nat), firstFrom p l j = -1 ∨ (j : Int) ≤ firstFrom p l j ∧ firstFrom p l j < j + l.length
 | [], _ => .inl rfl
 | e :: r, j => by
   rw [firstFrom]
   split
   ·exact .inr ⟨Int.le_refl _, by simp; omega⟩
   ·rcases firstFrom_ge (p := p) r (j + 1) with h | h
    ·exact .inl h
    ·refine .inr ⟨by omega, ?_⟩
     have := h.2
     simp only [List.length_cons]
     omega
theorem firstFrom_take {p : Ent → Bool} : ∀ (l : List Ent) (m j : Nat), decide (0 ≤ firstFrom p (l.take m) j) = (decide (0 ≤ firstFrom p l j) && decide (firstFrom p l j < j + m))
 | [], m, j => by rw [List.take_nil]; rfl
 | e :: r, 0, j => by
   rw [List.take_zero]
   rcases firstFrom_ge (p := p) (e :: r) j with h | h
   ·rw [h]; rfl
   ·rw [decide_eq_false (p := firstFrom p (e :: r) j < _) (by omega), Bool.and_false]; rfl
 | e :: r, m + 1, j => by
   rw [List.take_succ_cons, firstFrom, firstFrom]
   by_cases hp : p e = true
   ·rw [if_pos hp, if_pos hp, decide_eq_true (by omega), decide_eq_true (by omega)]; rfl
   ·rw [if_neg hp, if_neg hp, firstFrom_take r m (j + 1)]
    congr 1
    exact decide_eq_decide.2 (by omega)
theorem leafIn_eq (es : List Ent) (m : Nat) (r : Rcp) : leafIn es m r = inR (firstFrom (isTI r.topic r.index) es 0) 0 ((m : Int) - 1) := by
 rw [leafIn, firstFrom_take]
 rcases h : inR (firstFrom (isTI r.topic r.index) es 0) 0 ((m : Int) - 1) with _ | _
 ·rcases hh : (decide (0 ≤ firstFrom (isTI r.topic r.index) es 0) && decide (firstFrom (isTI r.topic r.index) es 0 < ((0 : Nat) : Int) + m)) with _ | _
  ·rfl
  ·rw [Bool.and_eq_true] at hh
   have h1 := of_decide_eq_true hh.1
   have h2 := of_decide_eq_true hh.2
   rw [inR_true.2 ⟨h1, by omega⟩] at h
   cases h
 ·have := inR_true.1 h
  rw [decide_eq_true (by omega), decide_eq_true (by omega)]; rfl
/-- what is sealed is what the last head says -/
def sealIs (width : Int) (L T : List ByteArray) (x : Hd) (z1 : Int) (l1 : List ByteArray) (z2 : Int) (l2 : List ByteArray) (h : Hd) : Bool :=
 (decide (z1 = x.size) && decide (l1 = growUp width 0 [] L x.size.toNat)) && ((decide (z2 = x.taken) && decide (l2 = growUp width 0 [] T x.taken.toNat)) && decide (h = x))
/-- the parts of a right broker, but for what is sealed -/
def brkParts (width : Int) (es : List Ent) (rs : List Rcp) (hs : List Hd) : Bool :=
 inR width 1 32 && (logOk es && (rcpsOk rs && (decide (0 < hs.length) && (headsOk width hs && (rootsOk width (leavesM width es) (takenM width rs) hs && rs.all (leafIn es (lastHd hs).size.toNat))))))
def brkOk (width : Int) (es : List Ent) (rs : List Rcp) (hs : List Hd) (z1 : Int) (l1 : List ByteArray) (z2 : Int) (l2 : List ByteArray) (h : Hd) : Bool :=
 brkParts width es rs hs && sealIs width (leavesM width es) (takenM width rs) (lastHd hs) z1 l1 z2 l2 h
structure BrkParts (width : Int) (es : List Ent) (rs : List Rcp) (hs : List Hd) : Prop where
 wd : inR width 1 32 = true
 log : logOk es = true
 rcps : rcpsOk rs = true
 pos : 0 < hs.length
 heads : headsOk width hs = true
 roots : rootsOk width (leavesM width es) (takenM width rs) hs = true
 ins : ∀ r ∈ rs, leafIn es (lastHd hs).size.toNat r = true
theorem brkParts_all {width : Int} {es : List Ent} {rs : List Rcp} {hs : List Hd} (h : brkParts width es rs hs = true) : BrkParts width es rs hs := by
 simp only [brkParts, Bool.and_eq_true, List.all_eq_true] at h
 obtain ⟨h1, h2, h3, h4, h5, h6, h7⟩ := h
 exact ⟨h1, h2, h3, of_decide_eq_true h4, h5, h6, h7⟩
theorem BrkParts.mk_ {width : Int} {es : List Ent} {rs : List Rcp} {hs : List Hd} (h : BrkParts width es rs hs) : brkParts width es rs hs = true := by
 simp only [brkParts, Bool.and_eq_true, List.all_eq_true]
 exact ⟨h.wd, h.log, h.rcps, decide_eq_true h.pos, h.heads, h.roots, h.ins⟩
theorem BrkParts.last {width : Int} {es : List Ent} {rs : List Rcp} {hs : List Hd} (h : BrkParts width es rs hs) :
  0 ≤ (lastHd hs).size ∧ (lastHd hs).size ≤ (es.length : Nat) ∧ (lastHd hs).size ≤ 512 ∧ 0 ≤ (lastHd hs).taken ∧ (lastHd hs).taken ≤ (rs.length : Nat) ∧ (lastHd hs).taken ≤ 512 ∧ headOk width (lastHd hs) = true := by
 have hg := lastHd_get h.pos
 obtain ⟨_, h2, _⟩ := headsOk_at h.heads hg
 have h3 := headOk_all h2
 have h4 := h.roots
 rw [rootsOk, Bool.and_eq_true] at h4
 have h5 := rootsTo_le (k := (hs.length - 1) + 1) (by have := h.pos; omega) h4.2
 rw [rootsTo_succ hg, Bool.and_eq_true] at h5
 have h6 := rootsAt_all h5.2
 rw [leavesM_len, takenM_len] at h6
 exact ⟨by omega, h6.1, by omega, by omega, h6.2.1, by omega, h2⟩
/-- what the last head says is a right seal -/
theorem seal_right {width : Int} {es : List Ent} {rs : List Rcp} {hs : List Hd} {z1 z2 : Int} {l1 l2 : List ByteArray} {h : Hd} (hp : BrkParts width es rs hs) (hq : sealIs width (leavesM width es) (takenM width rs) (lastHd hs) z1 l1 z2 l2 h = true) : sealOk width z1 l1 z2 l2 h = true := by
 obtain ⟨b1, b2, b3, b4, b5, b6, b7⟩ := hp.last
 have hg := lastHd_get hp.pos
 have h4 := hp.roots
 rw [rootsOk, Bool.and_eq_true] at h4
 have h5 := rootsTo_le (k := (hs.length - 1) + 1) (by have := hp.pos; omega) h4.2
 rw [rootsTo_succ hg, Bool.and_eq_true] at h5
 obtain ⟨r1, r2, r3, r4⟩ := rootsAt_all h5.2
 simp only [sealIs, Bool.and_eq_true, decide_eq_true_eq] at hq
 obtain ⟨⟨rfl, rfl⟩, ⟨rfl, rfl⟩, rfl⟩ := hq
 have hw := hp.wd
 have hA := leavesM_are hw hp.log
 have hT := takenM_are hw hp.rcps
 have hr0 : rngOk width 0 [] = true := by
  rw [rngOk, hw, Bool.and_true, Bool.and_eq_true, Bool.and_eq_true]; exact ⟨⟨by decide, by decide⟩, rfl⟩
 have key : ∀ (L : List ByteArray) (z : Int), 0 ≤ z → z ≤ 512 → z ≤ (L.length : Nat) → areH width L = true → rngOk width z (growUp width 0 [] L z.toNat) = true ∧ rngRoot width (growUp width 0 [] L z.toNat) = rootFu width 513 (L.take z.toNat) := by
  intro L z h0 h5 hl ha
  refine ⟨?_, growUp_root (by omega) (by omega)⟩
  have h7 : ([] : List ByteArray).length = popN 0 := by decide
  have h8 := growUp_len (width := width) (leaves := L) h7 (k := z.toNat) (by omega)
  have h9 := growUp_are hw h7 rfl ha (k := z.toNat) (by omega) (by omega)
  rw [rngOk, Bool.and_eq_true, Bool.and_eq_true, Bool.and_eq_true]
  refine ⟨⟨inR_true.2 ⟨by omega, by omega⟩, decide_eq_true ?_⟩, h9, hw⟩
  rw [h8, ← popC_nat (by omega)]; congr 1; omega
 obtain ⟨k1, k2⟩ := key (leavesM width es) _ b1 b3 r1 hA
 obtain ⟨k3, k4⟩ := key (takenM width rs) _ b4 b6 r2 hT
 rw [sealOk, k1, k3, b7, sealFit, rrT, rrT, k1, k3, if_pos rfl, if_pos rfl, k2, k4, ← r3, ← r4]
 simp
end Go.Proofs.YtmmepogjocfefaaGreat

namespace Go.Proofs.YtmmepogjocfefaaGreat
set_option linter.unusedVariables false
set_option linter.unusedSimpArgs false
open Go.RowKit Go.Maps Go.WideMaps
open Go.ChangeMaps (setBlock)
open Go.WideElems (Fit rd rg)

theorem setBlock_two (w : World) (b : Nat) (x y : Obj) : setBlock (setBlock w b x) b y = setBlock w b y := by simp [setBlock, Array.setIfInBounds_setIfInBounds]
theorem grown_set {w : World} {b : Nat} {es : Array MapEntry} {clock : Nat} (hb : w.heap[b]? = some (.map es clock)) (o : Obj) : w.grownBy (setBlock w b o) (some b) :=
 ⟨rfl, rfl, rfl, by simp [setBlock], fun i _ hi => Go.ChangeMaps.heap_setBlock_other hb _ (fun e => hi (by rw [e]))⟩
set_option maxRecDepth 10000 in
theorem map_bump {P : Program} {w : World} {t k e : TypeId} {b n : Nat} {D : DataW Unit} (K : KeyLaw P k) (ht : P.underlying t = some (.map k e)) (he : P.underlying e = some (.int .i64)) (hz : ∀ u : World, (zeroValue e).run P u = .ok (.int .i64 0) u)
  (h : w.ownsMap P k (plainElem P e) b n D) (hn : n < maxLen) {key : Value} {kl : Lit} (hkey : keyOf P k key = some kl) :
  ∃ (c : Int) (st : Nat) (W1 : World), D.atKey kl (.lit (.int .i64 0)) = .lit (.int .i64 c) ∧ (Instr.lookup t (.map (some b)) key false).run P w = .ok (.int .i64 c) w ∧ (Instr.mapEntry t (.map (some b)) key).run P w = .ok (.tuple #[.int .i64 c, goInt st]) W1 ∧
    (Instr.lookup t (.map (some b)) key false).run P W1 = .ok (.int .i64 c) W1 ∧ w.grownBy W1 (some b) ∧
    ∀ a : Int, (Lit.int .i64 a).wf = true → ∃ W2, (Instr.entryStore t (.map (some b)) (goInt st) (.int .i64 a)).run P W1 = .ok () W2 ∧ W2.ownsMap P k (plainElem P e) b (n + 1) (D.put kl (.lit (.int .i64 a))) ∧ w.grownBy W2 (some b) := by
 have KK := Keyed.of_law K
 obtain ⟨c, hrun, hat, hwc⟩ := h.lookup_int KK ht he (hz w) hkey
 have h' := h
 obtain ⟨es, clock, hb, F, hs, hD⟩ := h
 obtain ⟨v0, st, es1, clock1, hme, hv0, hst⟩ := Go.WideElems.entry_then_store K ht hz hb F hkey
 have hb1 : (setBlock w b (.map es1 clock1)).heap[b]? = some (.map es1 clock1) := Go.ChangeMaps.heap_setBlock_same hb _
 have hfin : ∀ a : Int, (Lit.int .i64 a).wf = true → ∃ W2, (Instr.entryStore t (.map (some b)) (goInt st) (.int .i64 a)).run P (setBlock w b (.map es1 clock1)) = .ok () W2 ∧ W2.ownsMap P k (plainElem P e) b (n + 1) (D.put kl (.lit (.int .i64 a))) ∧ w.grownBy W2 (some b) := fun a ha => by
  obtain ⟨es', clock', h1, h2⟩ := hst _ (.int .i64 a) hb1
  rw [setBlock_two] at h1
  obtain ⟨w', h3, h4, h5⟩ := h'.update KK ht hn hkey (plainElem_int he ha)
  rw [h2] at h3
  injection h3 with _ h3
  subst h3
  exact ⟨_, h1, h4, h5⟩
 have hinj : ∀ {v v' : Value} {x y : Obj}, (Result.ok v (setBlock w b x) : Result Value) = .ok v' (setBlock w b y) → v = v' ∧ x = y := fun {v v' x y} e => by
  injection e with e1 e2
  refine ⟨e1, ?_⟩
  have hx : (setBlock w b x).heap[b]? = some x := Go.ChangeMaps.heap_setBlock_same hb _
  rw [e2, Go.ChangeMaps.heap_setBlock_same hb] at hx
  exact (Option.some.inj hx).symm
 rcases K.find w hkey es.toList F.keys with ⟨h1, h2⟩ | ⟨j, e0, h1, h2, h3⟩
 ·simp [Instr.lookup, run_underlying ht, MapKept.run_getObj_map hb, K.check w _ hkey, h1, hz, Result.andThen] at hrun
  subst hrun
  have hme' := hme
  simp only [Instr.mapEntry, run_underlying ht, MapKept.run_getObj_map hb, K.check w false hkey, h1, hz, MapKept.run_setObj_map _ hb, Result.andThen, Sem.run_bind, Sem.run_pure] at hme'
  obtain ⟨e1, e2⟩ := hinj hme'
  simp only [Value.tuple.injEq] at e1
  have e3 : v0 = .int .i64 0 := by have := congrArg Array.toList e1; simp only [List.cons.injEq] at this; exact this.1.symm
  subst e3
  obtain ⟨W2, _, hw2, _⟩ := hfin 0 (by decide)
  refine ⟨0, st, _, hat, ?_, hme, ?_, grown_set hb _, hfin⟩
  ·simp [Instr.lookup, run_underlying ht, MapKept.run_getObj_map hb, K.check w _ hkey, h1, hz, Result.andThen]
  ·have hup : (Instr.mapUpdate t (.map (some b)) key (.int .i64 0)).run P w = .ok () (setBlock w b (.map es1 clock1)) := by
    simp [Instr.mapUpdate, run_underlying ht, MapKept.run_getObj_map hb, K.check w false hkey, h1, MapKept.run_setObj_map _ hb, Result.andThen, setBlock, ← e2]
   obtain ⟨w', h3, h4, _⟩ := h'.update KK ht hn hkey (plainElem_int he (a := 0) (by decide))
   rw [hup] at h3
   have h3 : setBlock w b (.map es1 clock1) = w' := by injection h3
   rw [← h3] at h4
   obtain ⟨c', hr', ha', _⟩ := h4.lookup_int KK ht he (hz _) hkey
   have hsm := Maps.atKey_put_same (D := D) (k := kl) (by rw [hD]; exact ⟨_, rfl⟩) (KK.key hkey) (.lit (.int .i64 0)) (.lit (.int .i64 0))
   have ha' := hsm.symm.trans ha'
   simp only [DataW.lit.injEq, Lit.int.injEq, true_and] at ha'
   rw [← ha'] at hr'
   exact hr'
 ·have hj : es[j]? = some e0 := by simpa using h2
  simp [Instr.lookup, run_underlying ht, MapKept.run_getObj_map hb, K.check w _ hkey, h1, hz, Result.andThen] at hrun
  have hsame : es.modify j (fun e => { e with key := key }) = es := by
   apply Array.ext'
   rw [Array.toList_modify, Go.ChangeMaps.modify_eq_set _ _ _ _ h2]
   have : ({ e0 with key := key } : MapEntry) = e0 := by rw [← h3]
   rw [this]
   exact Go.WideElems.set_self _ _ _ h2
  have hme' := hme
  simp [Instr.mapEntry, run_underlying ht, MapKept.run_getObj_map hb, K.check w false hkey, h1, hj, h3, K.stays w hkey, hsame, MapKept.run_setObj_map _ hb, Result.andThen] at hme'
  obtain ⟨⟨e1, _⟩, e2⟩ := hme'
  have e3 : v0 = .int .i64 c := e1.symm.trans hrun
  subst e3
  have hob : Obj.map es clock = Obj.map es1 clock1 := by
   have hx : (setBlock w b (.map es clock)).heap[b]? = some (.map es clock) := Go.ChangeMaps.heap_setBlock_same hb _
   have e4 : setBlock w b (.map es clock) = setBlock w b (.map es1 clock1) := e2
   rw [e4, hb1] at hx
   exact (Option.some.inj hx).symm
  have h4 : (setBlock w b (.map es1 clock1)).ownsMap P k (plainElem P e) b n D := by
   rw [← hob]
   exact ⟨es, clock, Go.ChangeMaps.heap_setBlock_same hb _, F, hs, hD⟩
  obtain ⟨c', hr', ha', _⟩ := h4.lookup_int KK ht he (hz _) hkey
  have ha' := hat.symm.trans ha'
  injection ha' with ha'
  injection ha' with _ ha'
  subst ha'
  refine ⟨c, st, _, hat, ?_, hme, hr', grown_set hb _, hfin⟩
  simp [Instr.lookup, run_underlying ht, MapKept.run_getObj_map hb, K.check w _ hkey, h1, hz, hrun, Result.andThen]
end Go.Proofs.YtmmepogjocfefaaGreat

namespace Go.Proofs.YtmmepogjocfefaaGreat
set_option linter.unusedVariables false
set_option linter.unusedSimpArgs false
open Go.RowKit Go.WideMaps

theorem keyLaid : laidOutB Tryz.prog = true := by kernel_rfl
theorem keySz : ∃ m, Tryz.prog.types.size = m + 1 := ⟨Tryz.prog.types.size - 1, by have : 0 < Tryz.prog.types.size := of_decide_eq_true (by kernel_rfl); omega⟩
theorem cells_str : Tryz.prog.cellsOf 9 = 1 := by kernel_rfl
theorem cells_int : Tryz.prog.cellsOf 3 = 1 := by kernel_rfl
theorem i64_wf {x : Int} (h : I64 x) : (Lit.int .i64 x).wf = true := WalkArith.wf_i64 (by have h1 := h.1; have h2 := h.2; omega)
theorem rcpRow : (54 : TypeId) < Tryz.prog.types.size := of_decide_eq_true (by kernel_rfl)
theorem rcpWide : (match Tryz.prog.underlying 54 with | some (.array _ _) | some (.struct _) => true | _ => false) = true := by rw [Tryz.underlying54]
theorem rcpKA : Tryz.prog.keyTypeAt 2 54 = true := by kernel_rfl
set_option maxRecDepth 100000 in
theorem rcpLaw : KeyLaw Tryz.prog 54 := deep_law_laid keyLaid (m := 2) (by omega) rcpRow rcpKA rcpWide
theorem rcpKT : Tryz.prog.keyType 54 = true := by kernel_rfl
theorem rcpCO : Tryz.prog.cellsOf 54 = 3 := by kernel_rfl
set_option maxRecDepth 100000 in
set_option maxHeartbeats 400000 in
theorem rcpKey (r : Rcp) (hf : r.fits) : ∃ l, keyOf Tryz.prog 54 (.agg #[.string r.reader, .string r.topic, .int .i64 r.index]) = some l := by
 obtain ⟨h3, h1, h2⟩ := hf
 have hF : (Value.agg #[.string r.reader, .string r.topic, .int .i64 r.index]).formed Tryz.prog 54 = true := by simp [Value.formed, Tryz.underlying54, rcpCO]
 obtain ⟨m, hm⟩ := keySz
 have c1 := cells_str
 have c2 := cells_int
 have hw := i64_wf h3
 have hk : ∃ L, Tryz.prog.keyLits (Tryz.prog.types.size + 1) 54 (Value.agg #[.string r.reader, .string r.topic, .int .i64 r.index]).cells.toList = some L := by
  rw [hm]
  refine ⟨[.string r.reader.data.toList, .string r.topic.data.toList, .int .i64 r.index], ?_⟩
  simp [Program.keyLits, Value.cells, Tryz.underlying54, Tryz.underlying9, Tryz.underlying3, rcpCO, c1, c2, h1, h2, hw]
 obtain ⟨L, hL⟩ := hk
 refine ⟨.string (keyBytes L), ?_⟩
 unfold keyOf
 simp only [Tryz.underlying54, rcpKT, hF, hL, Bool.and_self, if_true, Option.map_some]
theorem rcpV_inj {a b : Rcp} (h : (.agg #[.string a.reader, .string a.topic, .int .i64 a.index] : Value) = .agg #[.string b.reader, .string b.topic, .int .i64 b.index]) : a = b := by
 simp only [Value.agg.injEq] at h
 have h2 := congrArg Array.toList h
 simp only [List.cons.injEq, Value.string.injEq, Value.int.injEq, true_and, and_true] at h2
 exact Rcp.eq_of h2.1 h2.2.1 h2.2.2
set_option maxRecDepth 100000 in
theorem eqlRcp (a b : Rcp) (ha : a.fits) (hb : b.fits) (W : World) : (binOp .eql 54 (.agg #[.string a.reader, .string a.topic, .int .i64 a.index]) (.agg #[.string b.reader, .string b.topic, .int .i64 b.index])).run Tryz.prog W = .ok (.bool (decide (a = b))) W := by
 obtain ⟨la, hla⟩ := rcpKey a ha
 obtain ⟨lb, hlb⟩ := rcpKey b hb
 obtain ⟨r, hr, hiff⟩ := run_equal_deep W (m := 2) (by omega) rcpKA rcpWide hla hlb
 have h2 : r = decide (a = b) := by
  by_cases hab : a = b
  ·subst hab
   obtain rfl : la = lb := Option.some.inj (hla.symm.trans hlb)
   rw [decide_eq_true rfl, hiff.2 rfl]
  ·rw [decide_eq_false hab]
   cases r
   ·rfl
   ·exfalso
    have := hiff.1 rfl
    subst this
    exact hab (rcpV_inj (rcpLaw.inj hla hlb))
 simp only [binOp]
 simp [hr, h2]
theorem hdRow : (48 : TypeId) < Tryz.prog.types.size := of_decide_eq_true (by kernel_rfl)
theorem hdWide : (match Tryz.prog.underlying 48 with | some (.array _ _) | some (.struct _) => true | _ => false) = true := by rw [Tryz.underlying48]
theorem hdKA : Tryz.prog.keyTypeAt 2 48 = true := by kernel_rfl
set_option maxRecDepth 100000 in
theorem hdLaw : KeyLaw Tryz.prog 48 := deep_law_laid keyLaid (m := 2) (by omega) hdRow hdKA hdWide
theorem hdKT : Tryz.prog.keyType 48 = true := by kernel_rfl
theorem hdCO : Tryz.prog.cellsOf 48 = 5 := by kernel_rfl
set_option maxRecDepth 100000 in
set_option maxHeartbeats 400000 in
theorem hdKey (r : Hd) (hf : r.fits) : ∃ l, keyOf Tryz.prog 48 (.agg #[.int .i64 r.num, .int .i64 r.size, .string r.root, .int .i64 r.taken, .string r.troot]) = some l := by
 obtain ⟨h1, h2, h3, h4, h5⟩ := hf
 have hF : (Value.agg #[.int .i64 r.num, .int .i64 r.size, .string r.root, .int .i64 r.taken, .string r.troot]).formed Tryz.prog 48 = true := by simp [Value.formed, Tryz.underlying48, hdCO]
 obtain ⟨m, hm⟩ := keySz
 have c1 := cells_str
 have c2 := cells_int
 have w1 := i64_wf h1
 have w2 := i64_wf h2
 have w3 := i64_wf h3
 have hk : ∃ L, Tryz.prog.keyLits (Tryz.prog.types.size + 1) 48 (Value.agg #[.int .i64 r.num, .int .i64 r.size, .string r.root, .int .i64 r.taken, .string r.troot]).cells.toList = some L := by
  rw [hm]
  refine ⟨[.int .i64 r.num, .int .i64 r.size, .string r.root.data.toList, .int .i64 r.taken, .string r.troot.data.toList], ?_⟩
  simp [Program.keyLits, Value.cells, Tryz.underlying48, Tryz.underlying9, Tryz.underlying3, hdCO, c1, c2, h4, h5, w1, w2, w3]
 obtain ⟨L, hL⟩ := hk
 refine ⟨.string (keyBytes L), ?_⟩
 unfold keyOf
 simp only [Tryz.underlying48, hdKT, hF, hL, Bool.and_self, if_true, Option.map_some]
theorem hdV_inj {a b : Hd} (h : (.agg #[.int .i64 a.num, .int .i64 a.size, .string a.root, .int .i64 a.taken, .string a.troot] : Value) = .agg #[.int .i64 b.num, .int .i64 b.size, .string b.root, .int .i64 b.taken, .string b.troot]) : a = b := by
 simp only [Value.agg.injEq] at h
 have h2 := congrArg Array.toList h
 simp only [List.cons.injEq, Value.string.injEq, Value.int.injEq, true_and, and_true] at h2
 exact Hd.eq_of h2.1 h2.2.1 h2.2.2.1 h2.2.2.2.1 h2.2.2.2.2
set_option maxRecDepth 100000 in
theorem eqHd (a b : Hd) (ha : a.fits) (hb : b.fits) (W : World) : (Op.equal 48 (.agg #[.int .i64 a.num, .int .i64 a.size, .string a.root, .int .i64 a.taken, .string a.troot]) (.agg #[.int .i64 b.num, .int .i64 b.size, .string b.root, .int .i64 b.taken, .string b.troot])).run Tryz.prog W = .ok (decide (a = b)) W := by
 obtain ⟨la, hla⟩ := hdKey a ha
 obtain ⟨lb, hlb⟩ := hdKey b hb
 obtain ⟨r, hr, hiff⟩ := run_equal_deep W (m := 2) (by omega) hdKA hdWide hla hlb
 have h2 : r = decide (a = b) := by
  by_cases hab : a = b
  ·subst hab
   obtain rfl : la = lb := Option.some.inj (hla.symm.trans hlb)
   rw [decide_eq_true rfl, hiff.2 rfl]
  ·rw [decide_eq_false hab]
   cases r
   ·rfl
   ·exfalso
    have := hiff.1 rfl
    subst this
    exact hab (hdV_inj (hdLaw.inj hla hlb))
 rw [hr, h2]
theorem eqlHd (a b : Hd) (ha : a.fits) (hb : b.fits) (W : World) : (binOp .eql 48 (.agg #[.int .i64 a.num, .int .i64 a.size, .string a.root, .int .i64 a.taken, .string a.troot]) (.agg #[.int .i64 b.num, .int .i64 b.size, .string b.root, .int .i64 b.taken, .string b.troot])).run Tryz.prog W = .ok (.bool (decide (a = b))) W := by
 have hr := eqHd a b ha hb W
 simp only [binOp]
 simp [hr]
theorem neqHd (a b : Hd) (ha : a.fits) (hb : b.fits) (W : World) : (binOp .neq 48 (.agg #[.int .i64 a.num, .int .i64 a.size, .string a.root, .int .i64 a.taken, .string a.troot]) (.agg #[.int .i64 b.num, .int .i64 b.size, .string b.root, .int .i64 b.taken, .string b.troot])).run Tryz.prog W = .ok (.bool (!decide (a = b))) W := by
 have hr := eqHd a b ha hb W
 simp only [binOp]
 simp [hr]
end Go.Proofs.YtmmepogjocfefaaGreat

namespace Go.Proofs.YtmmepogjocfefaaGreat
set_option linter.unusedVariables false
set_option linter.unusedSimpArgs false
open Go.RowKit Go.Maps Go.WideMaps

theorem rcp_cells {w : World} {lo hi : Nat} {A : Option Addr} {l : List Rcp} (h : Rd w lo hi A (rcps l)) {k : Nat} (hk : k < l.length) : ∃ b off x, A = some ⟨b, off, none⟩ ∧ b < w.heap.size ∧ l[k]? = some x ∧
  w.cell? ⟨b, off + k * 3, none⟩ = some (.string x.reader) ∧ w.cell? ⟨b, off + k * 3 + 1, none⟩ = some (.string x.topic) ∧ w.cell? ⟨b, off + k * 3 + 2, none⟩ = some (.int .i64 x.index) := by
 obtain ⟨b, off, x, h1, _, _, h4, h5, h6⟩ := Rd.flat (f := Rcp.cells) (m := 3) (fun _ => rfl) (by omega) h hk
 exact ⟨b, off, x, h1, h4, h5, h6 0 _ rfl, h6 1 _ rfl, h6 2 _ rfl⟩
/-- the first place of a receipt -/
def rcpPos (r : Rcp) : List Rcp → Nat → Int
 | [], _ => -1
 | x :: l, j => if x = r then (j : Int) else rcpPos r l (j + 1)
theorem rcpPos_hit {r : Rcp} {l : List Rcp} {k : Nat} (h : l[k]? = some r) : rcpPos r (l.drop k) k = k := by
 rw [List.drop_eq_getElem_cons (List.getElem?_eq_some_iff.1 h).1, (List.getElem?_eq_some_iff.1 h).2, rcpPos, if_pos rfl]
theorem rcpPos_miss {r x : Rcp} {l : List Rcp} {k : Nat} (h : l[k]? = some x) (hx : ¬ x = r) : rcpPos r (l.drop k) k = rcpPos r (l.drop (k + 1)) (k + 1) := by
 rw [List.drop_eq_getElem_cons (List.getElem?_eq_some_iff.1 h).1, (List.getElem?_eq_some_iff.1 h).2, rcpPos, if_neg hx]
theorem rcpPos_end {r : Rcp} {l : List Rcp} : rcpPos r (l.drop l.length) l.length = -1 := by rw [List.drop_length]; rfl
theorem rcpPos_ge {r : Rcp} : ∀ (l : List Rcp) (j : Nat), rcpPos r l j = -1 ∧ r ∉ l ∨ ∃ k, k < l.length ∧ rcpPos r l j = ((j + k : Nat) : Int) ∧ l[k]? = some r ∧ r ∉ l.take k
 | [], j => .inl ⟨rfl, by simp⟩
 | x :: l, j => by
   rw [rcpPos]
   by_cases h : x = r
   ·rw [if_pos h]
    exact .inr ⟨0, by simp, rfl, by rw [h]; rfl, by simp⟩
   ·rw [if_neg h]
    rcases rcpPos_ge l (j + 1) with ⟨h1, h2⟩ | ⟨k, h1, h2, h3, h4⟩
    ·exact .inl ⟨h1, by simp [h2]; exact fun e => h e.symm⟩
    ·exact .inr ⟨k + 1, by simp; omega, by rw [h2]; congr 1; omega, by simpa using h3, by simp [h4]; exact fun e => h e.symm⟩
theorem rcpPos_self {l : List Rcp} {k : Nat} {r : Rcp} (h : l[k]? = some r) : (rcpPos r l 0 = (k : Int)) ↔ r ∉ l.take k := by
 have hm := List.mem_of_getElem? h
 rcases rcpPos_ge (r := r) l 0 with ⟨_, h2⟩ | ⟨q, h1, h2, h3, h4⟩
 ·exact absurd hm h2
 ·rw [h2]
  constructor
  ·intro e
   have : q = k := by omega
   exact this ▸ h4
  ·intro h5
   rcases Nat.lt_trichotomy q k with h6 | h6 | h6
   ·exfalso
    refine h5 (List.mem_of_getElem? (i := q) ?_)
    rw [List.getElem?_take_of_lt h6, h3]
   ·rw [h6]; simp
   ·exfalso
    refine h4 (List.mem_of_getElem? (i := k) ?_)
    rw [List.getElem?_take_of_lt h6, h]
def Seen (l : List Rcp) (k : Nat) (D : DataW Unit) : Prop :=
 Maps.IsMap D ∧ ∀ (r : Rcp) (kl : Lit), keyOf Tryz.prog 54 (.agg #[.string r.reader, .string r.topic, .int .i64 r.index]) = some kl → D.atKey kl (.lit (.int .i64 0)) = .lit (.int .i64 (if r ∈ l.take k then 1 else 0))
theorem seen_0 (l : List Rcp) : Seen l 0 (.map []) := ⟨Maps.isMap_empty, fun r kl _ => by rw [List.take_zero, if_neg (by simp)]; rfl⟩
theorem seen_succ {l : List Rcp} {k : Nat} {D : DataW Unit} {x : Rcp} {kl : Lit} (h : Seen l k D) (hx : l[k]? = some x) (hkey : keyOf Tryz.prog 54 (.agg #[.string x.reader, .string x.topic, .int .i64 x.index]) = some kl) :
  Seen l (k + 1) (D.put kl (.lit (.int .i64 1))) := by
 refine ⟨h.1.put _ _, fun r kr hr => ?_⟩
 rw [take_succ hx]
 by_cases hxr : x = r
 ·subst hxr
  obtain rfl : kl = kr := Option.some.inj (hkey.symm.trans hr)
  rw [Maps.atKey_put_same h.1 ((Keyed.of_law rcpLaw).key hkey), if_pos (by simp)]
 ·have hne : kr ≠ kl := fun e => hxr (by
   subst e
   exact rcpV_inj ((Keyed.of_law rcpLaw).inj hkey hr))
  rw [Maps.atKey_put_other hne, h.2 r kr hr]
  have : (r ∈ l.take k ++ [x]) ↔ r ∈ l.take k := by simp; exact fun e => absurd e.symm hxr
  simp only [this]
set_option maxRecDepth 100000 in
set_option maxHeartbeats 4000000 in
theorem receiptsOk_c (A : Option Addr) (c lo hi n : Nat) (l : List Rcp) (w : World) (hr : Rd w lo hi A (rcps l)) (hn : l.length = n) (hl : n ≤ 1048576) (hf : ∀ x ∈ l, x.fits) :
  Calls Tryz.prog 118 #[.slice A n c] w fun e w' => e = .returned (.bool (rcpsOk l)) ∧ Below w.heap.size w w' := by
 have HN := Lib.hid hn
 have HF := Lib.hid hf
 have HR := Lib.hid hr
 clear hn hf hr
 have hmm := @run_makeMap Tryz.prog
 go_enter Tryz.func118, Tryz.ntmps118
 rcases (show n ≤ 512 ∨ 512 < n by omega) with h5 | h5
 ·go_wp2
  go_loopw [12] (fun i wr => ∃ (k : Nat) (D : DataW Unit), k ≤ n ∧ i = .int .i64 k ∧ rcpsTo l k = true ∧ Seen l k D ∧ wr.ownsMap Tryz.prog 54 (plainElem Tryz.prog 3) w.heap.size k D ∧ Below w.heap.size w wr) (fun i _ => n - (intOf i).toNat)
  case atStart => exact ⟨0, _, Nat.zero_le _, rfl, rfl, seen_0 l, World.ownsMap_made (H := Unit) w Tryz.prog 54 (plainElem Tryz.prog 3), (Below.refl _ _).alloc (Nat.le_refl _) _⟩
  case round =>
   obtain ⟨k, D, hk, rfl, hrt, hct, hown, hb0⟩ := hrel
   have HRT := Lib.hid hrt
   have HCT := Lib.hid hct
   have HB0 := Lib.hid hb0
   have HO := Lib.hid hown
   clear hrt hct hb0 hown
   by_cases hlt : k < n
   ·obtain ⟨b, off, x, rfl, hb, hks, hc⟩ := rcp_cells (HR.out.below HB0.out) (k := k) (by rw [HN.out]; exact hlt)
    have hc0 := hc.1
    have hc1 := hc.2.1
    have hc2 := hc.2.2
    have HK := Lib.hid hks
    have HX := Lib.hid (HF.out x (List.mem_of_getElem? hks))
    have HOK := Lib.hid (fun W => implReceiptOk_c x W HX.out)
    have HAT := Lib.hid (rcpAt_eq hks)
    clear hc hks
    go_wp2_with fail
    refine (HOK.out _).mono ?_
    rintro e w2 ⟨rfl, hb2⟩
    have hd0 : w2.cell? ⟨wr.heap.size, 0, none⟩ = some (.string x.reader) := cell_later hb2 (by go_simp)
    have hd1 : w2.cell? ⟨wr.heap.size, 1, none⟩ = some (.string x.topic) := cell_later hb2 (by go_simp)
    have hd2 : w2.cell? ⟨wr.heap.size, 2, none⟩ = some (.int .i64 x.index) := cell_later hb2 (by go_simp)
    have hq2 : wr.heap.size < w2.heap.size := by have := hb2.size; simp at this; omega
    have HB2 : Hid (Below w.heap.size w w2) := below_then (HB0.out.alloc HB0.out.size _) hb2 (by have := HB0.out.size; simp; omega)
    have HO2 := Lib.hid (ownsMap_below (HO.out.alloc _) hb2)
    clear hb2 hc0 hc1 hc2 HOK HO
    rcases h1 : rcpOk x with _ | _
    ·go_wp2
     go_ret
     exact ⟨ret_bool (rcpsOk_bad (by rw [HN.out]; exact hlt) (by rw [HAT.out, h1]; rfl)).symm, HB2.out⟩
    ·have h2 := rcpOk_all h1
     rw [h1] at HAT
     clear h1
     obtain ⟨kl, hkl⟩ := rcpKey x HX.out
     have hat := HCT.out.2 x kl hkl
     obtain ⟨c0, st, W1, hat2, hlk, hme, hlk1, hgr1, hst⟩ := map_bump rcpLaw Tryz.underlying193 Tryz.underlying3 zeroInt HO2.out.drew (by unfold maxLen; omega) hkl
     have hlk0 := (HO2.out.lookup_int (Keyed.of_law rcpLaw) Tryz.underlying193 Tryz.underlying3 (zeroInt _) hkl)
     obtain ⟨c1, hlk0, hat1, _⟩ := hlk0
     have hc01 : c0 = c1 := by
      have := hat2.symm.trans hat1
      simp only [DataW.lit.injEq, Lit.int.injEq, true_and] at this
      exact this
     subst hc01
     have hcv : c0 = if x ∈ l.take k then 1 else 0 := by
      have := hat2.symm.trans hat
      simp only [DataW.lit.injEq, Lit.int.injEq, true_and] at this
      exact this
     clear hat hat1 hat2 h2
     by_cases hin : x ∈ l.take k
     ·rw [if_pos hin] at hcv
      subst hcv
      have HIN := Lib.hid hin
      clear hlk hme hlk1 hgr1 hst hin
      go_wp2
      go_ret
      exact ⟨ret_bool (rcpsOk_bad (by rw [HN.out]; exact hlt) (by rw [HAT.out, decide_eq_false (fun h => h HIN.out)]; rfl)).symm, HB2.out⟩
     ·rw [if_neg hin] at hcv
      subst hcv
      obtain ⟨W2, hst2, hown3, hgr2⟩ := hst 1 (by decide)
      have hst3 : (Instr.entryStore 193 (.map (some w.heap.size)) (.int .i64 (st : Int)) (.int .i64 1)).run Tryz.prog W1 = .ok () W2 := hst2
      have hme3 : (Instr.mapEntry 193 (.map (some w.heap.size)) (.agg #[.string x.reader, .string x.topic, .int .i64 x.index])).run Tryz.prog w2.drew = .ok (.tuple #[.int .i64 0, .int .i64 (st : Int)]) W1 := hme
      have HB3 : Hid (Below w.heap.size w W2) := Lib.hid (HB2.out.drew.grown hgr2 HB2.out.size (fun j hj => by cases hj; omega))
      have HO3 := Lib.hid hown3
      have HS3 := Lib.hid (seen_succ HCT.out HK.out hkl)
      have HR3 : Hid (rcpsTo l (k + 1) = true) := Lib.hid (by rw [rcpsTo_succ, HRT.out, HAT.out, decide_eq_true hin]; rfl)
      clear hst hst2 hme hown3 hgr1 hgr2 hin
      go_wp2
      go_region
      all_goals go_wp2
      all_goals go_roundw
      case rel => exact ⟨k + 1, _, by omega, by go_num, HR3.out, HS3.out, HO3.out, HB3.out⟩
      case measure => simp [intOf]; omega
   ·obtain rfl : k = n := by omega
    clear HO
    go_wp2
    go_ret
    exact ⟨ret_bool (by rw [rcpsOk, HN.out, HRT.out]; simp [h5]), HB0.out⟩
 ·go_wp2
  go_ret
  exact ⟨ret_bool (rcpsOk_big (by rw [HN.out]; exact h5)).symm, Below.refl _ _⟩
set_option maxRecDepth 100000 in
set_option maxHeartbeats 4000000 in
theorem l12At_c (A : Option Addr) (c lo hi n : Nat) (l : List Rcp) (r : Rcp) (w : World) (hr : Rd w lo hi A (rcps l)) (hn : l.length = n) (hl : n ≤ 1048576) (hf : ∀ x ∈ l, x.fits) (hrf : r.fits) :
  Calls Tryz.prog 83 #[.slice A n c, .agg #[.string r.reader, .string r.topic, .int .i64 r.index]] w fun e w' => e = .returned (.int .i64 (rcpPos r l 0)) ∧ Below w.heap.size w w' := by
 have HN := Lib.hid hn
 have HR := Lib.hid hr
 have HF := Lib.hid hf
 clear hn hr hf
 go_enter Tryz.func83, Tryz.ntmps83
 go_wp2
 go_loopw [5] (fun i wr => ∃ (k : Nat), k ≤ n ∧ i = .int .i64 k ∧ rcpPos r l 0 = rcpPos r (l.drop k) k ∧ NewBox wr w.heap.size [.string r.reader, .string r.topic, .int .i64 r.index] ∧ Below w.heap.size w wr) (fun i _ => n - (intOf i).toNat)
 case atStart => exact ⟨0, Nat.zero_le _, rfl, rfl, NewBox.new w #[.string r.reader, .string r.topic, .int .i64 r.index] _, (Below.refl _ _).alloc (Nat.le_refl _) _⟩
 case round =>
  obtain ⟨k, hk, rfl, hst, hx, hb0⟩ := hrel
  have HST := Lib.hid hst
  have HB0 := Lib.hid hb0
  have HX := Lib.hid hx
  have hzr := hx.1
  have e0 : wr.cell? ⟨w.heap.size, 0, none⟩ = some (.string r.reader) := hx.cell (o := 0) rfl
  have e1 : wr.cell? ⟨w.heap.size, 1, none⟩ = some (.string r.topic) := hx.cell (o := 1) rfl
  have e2 : wr.cell? ⟨w.heap.size, 2, none⟩ = some (.int .i64 r.index) := hx.cell (o := 2) rfl
  clear hst hx hb0
  by_cases hlt : k < n
  ·obtain ⟨b, off, x, rfl, hb, hks, hc⟩ := rcp_cells (HR.out.below HB0.out) (k := k) (by rw [HN.out]; exact hlt)
   have hc0 := hc.1
   have hc1 := hc.2.1
   have hc2 := hc.2.2
   have HK := Lib.hid hks
   have hI : (k : Int) < n := by omega
   have heq := eqlRcp x r (HF.out x (List.mem_of_getElem? hks)) hrf
   have HM := Lib.hid (fun h => rcpPos_miss (r := r) hks h)
   clear hc hks
   go_wp2_with fail
   go_quiet (fail)
   generalize hw5 : wr.drewN _ = w5
   have HX5 : Hid (NewBox w5 w.heap.size [.string r.reader, .string r.topic, .int .i64 r.index]) := by rw [Hid, ← hw5]; exact HX.out.drewN _
   have HB5 : Hid (Below w.heap.size w w5) := by rw [Hid, ← hw5]; exact below_then HB0.out (below_drewN _ _) HB0.out.size
   clear hw5 heq e0 e1 e2 hc0 hc1 hc2
   rcases hd : decide (x = r) with _ | _
   ·have HH := Lib.hid (HM.out (of_decide_eq_false hd))
    clear hd HM
    go_wp2
    go_roundw
    case rel => exact ⟨k + 1, by omega, by go_num, by rw [HST.out, HH.out], HX5.out, HB5.out⟩
    case measure => simp [intOf]; omega
   ·have HH := Lib.hid (rcpPos_hit (r := r) (by rw [← of_decide_eq_true hd]; exact HK.out))
    clear hd HM
    go_wp2
    go_ret
    exact ⟨ret_int (by rw [HST.out, HH.out]), HB5.out⟩
  ·obtain rfl : k = n := by omega
   clear e0 e1 e2
   go_wp2
   go_ret
   exact ⟨ret_int (by rw [HST.out, ← HN.out, rcpPos_end]), HB0.out⟩
set_option maxRecDepth 100000 in
set_option maxHeartbeats 4000000 in
theorem l12ReceiptsOk_c (A : Option Addr) (c lo hi n : Nat) (l : List Rcp) (w : World) (hr : Rd w lo hi A (rcps l)) (hn : l.length = n) (hl : n ≤ 1048576) (hf : ∀ x ∈ l, x.fits) :
  Calls Tryz.prog 63 #[.slice A n c] w fun e w' => e = .returned (.bool (rcpsOk l)) ∧ Below w.heap.size w w' := by
 have HN := Lib.hid hn
 have HF := Lib.hid hf
 have HR := Lib.hid hr
 have HAT := Lib.hid (fun W (h : Rd W lo hi A (rcps l)) (r : Rcp) (hrf : r.fits) => l12At_c A c lo hi n l r W h hn hl hf hrf)
 clear hn hf hr
 go_enter Tryz.func63, Tryz.ntmps63
 rcases (show n ≤ 512 ∨ 512 < n by omega) with h5 | h5
 ·go_wp2
  go_loopw [3] (fun i wr => ∃ (k : Nat), k ≤ n ∧ i = .int .i64 k ∧ rcpsTo l k = true ∧ Below w.heap.size w wr) (fun i _ => n - (intOf i).toNat)
  case atStart => exact ⟨0, Nat.zero_le _, rfl, rfl, Below.refl _ _⟩
  case round =>
   obtain ⟨k, hk, rfl, hrt, hb0⟩ := hrel
   have HRT := Lib.hid hrt
   have HB0 := Lib.hid hb0
   clear hrt hb0
   by_cases hlt : k < n
   ·obtain ⟨b, off, x, rfl, hb, hks, hc⟩ := rcp_cells (HR.out.below HB0.out) (k := k) (by rw [HN.out]; exact hlt)
    have hc0 := hc.1
    have hc1 := hc.2.1
    have hc2 := hc.2.2
    have HX := Lib.hid (HF.out x (List.mem_of_getElem? hks))
    have HOK := Lib.hid (fun W => specReceiptOk_c x W HX.out)
    have HP := Lib.hid (rcpPos_self hks)
    have HRA := Lib.hid (rcpAt_eq hks)
    have hI : (k : Int) < n := by omega
    clear hks
    go_wp2_with fail
    refine (HOK.out _).mono ?_
    rintro e w2 ⟨rfl, hb2⟩
    have HB2 := Lib.hid (below_then HB0.out hb2 HB0.out.size)
    have hd0 := (hb2.cell (p := ⟨b, off + k * 3, none⟩) hb).trans hc0
    have hd1 := (hb2.cell (p := ⟨b, off + k * 3 + 1, none⟩) hb).trans hc1
    have hd2 := (hb2.cell (p := ⟨b, off + k * 3 + 2, none⟩) hb).trans hc2
    clear hb2 hc0 hc1 hc2 hb HOK HB0 hc
    rcases h1 : rcpOk x with _ | _
    ·go_wp2
     go_ret
     exact ⟨ret_bool (rcpsOk_bad (by rw [HN.out]; exact hlt) (by rw [HRA.out, h1]; rfl)).symm, HB2.out⟩
    ·rw [h1] at HRA
     clear h1
     go_wp2_with fail
     refine (HAT.out _ (HR.out.below HB2.out) x HX.out).mono ?_
     rintro e w3 ⟨rfl, hb3⟩
     have HB3 := Lib.hid (below_then HB2.out hb3 HB2.out.size)
     clear hb3 hd0 hd1 hd2 HB2
     by_cases hin : rcpPos x l 0 = (k : Int)
     ·have hbq : (rcpPos x l 0 != (k : Int)) = false := by simp [hin]
      have HR3 : Hid (rcpsTo l (k + 1) = true) := Lib.hid (by rw [rcpsTo_succ, HRT.out, HRA.out, decide_eq_true (HP.out.1 hin)]; rfl)
      clear hin HP
      generalize rcpPos x l 0 = pz at *
      go_wp2
      go_roundw
      case rel => exact ⟨k + 1, by omega, by go_num, HR3.out, HB3.out⟩
      case measure => simp [intOf]; omega
     ·have hbq : (rcpPos x l 0 != (k : Int)) = true := bne_iff_ne.2 hin
      have HRB := Lib.hid (rcpsOk_bad (l := l) (by rw [HN.out]; exact hlt) (by rw [HRA.out, decide_eq_false (fun h => hin (HP.out.2 h))]; rfl))
      clear hin HP
      generalize rcpPos x l 0 = pz at *
      go_wp2
      go_ret
      exact ⟨ret_bool HRB.out.symm, HB3.out⟩
   ·obtain rfl : k = n := by omega
    go_wp2
    go_ret
    exact ⟨ret_bool (by rw [rcpsOk, HN.out, HRT.out]; simp [h5]), HB0.out⟩
 ·go_wp2
  go_ret
  exact ⟨ret_bool (rcpsOk_big (by rw [HN.out]; exact h5)).symm, Below.refl _ _⟩
end Go.Proofs.YtmmepogjocfefaaGreat

namespace Go.Proofs.YtmmepogjocfefaaGreat
set_option linter.unusedVariables false
set_option linter.unusedSimpArgs false
open Go.RowKit

set_option maxRecDepth 100000 in
set_option maxHeartbeats 4000000 in
theorem receiptHashes_c (width : Int) (A : Option Addr) (c lo hi n : Nat) (l : List Rcp) (w : World) (hr : Rd w lo hi A (rcps l)) (hn : l.length = n) (hl : n ≤ 1048576) (hf : ∀ x ∈ l, x.fits) :
  Calls Tryz.prog 122 #[.int .i64 width, .slice A n c] w fun e w' => ∃ A' c', e = .returned (.slice A' n c') ∧ w'.ownsRow w.heap.size 9 1 (.slice A' n c') n (strs (l.map (rcpHashM width))) ∧ Below w.heap.size w w' := by
 have HN := Lib.hid hn
 have HR := Lib.hid hr
 have HF := Lib.hid hf
 obtain ⟨L, hL⟩ : ∃ L, L = l.map (rcpHashM width) := ⟨_, rfl⟩
 have HLL := Lib.hid hL
 rw [← hL]
 clear hn hr hf hL
 go_enter Tryz.func122, Tryz.ntmps122
 go_wp2
 go_loopw [5, 12] (fun v i wx => ∃ (k : Nat) (A0 : Option Addr) (c0 : Nat), k ≤ n ∧ i = .int .i64 k ∧ v = .slice A0 k c0 ∧ wx.ownsRow w.heap.size 9 1 (.slice A0 k c0) k (strs (L.take k)) ∧ Below w.heap.size w wx ) (fun _ i _ => n - (intOf i).toNat)
 case atStart => exact ⟨0, none, 0, Nat.zero_le _, rfl, rfl, World.ownsRow_nil _ _ _ _, Below.refl _ _⟩
 case round =>
  obtain ⟨k, A0, c0, hk, rfl, rfl, how, hbr⟩ := hrel
  have HBR := Lib.hid hbr
  have HOW := Lib.hid how
  clear hbr how
  by_cases hlt : k < n
  ·skip
   obtain ⟨b, off, x, rfl, hb, hx, hc⟩ := rcp_cells (HR.out.below HBR.out) (k := k) (by rw [HN.out]; exact hlt)
   have hc0 := hc.1
   have hc1 := hc.2.1
   have hc2 := hc.2.2
   have HT : Hid (L.take (k + 1) = L.take k ++ [rcpHashM width x]) := Lib.hid (take_succ (by rw [HLL.out, List.getElem?_map, hx]; rfl))
   have HLH := Lib.hid (fun W => implReceiptHash_c width x W (HF.out x (List.mem_of_getElem? hx)))
   have hI : (k : Int) < n := by omega
   clear hc hx
   generalize rcpHashM width x = lh at *
   generalize rcpHashOk width x = lk at *
   go_wp2_with fail
   refine (HLH.out _).mono ?_
   rintro e w1 ⟨rfl, hb1⟩
   have HB1 := Lib.hid (below_then (HBR.out.alloc HBR.out.size _) hb1 (by first | exact HBR.out.size | (have := HBR.out.size; simp; omega)))
   have HO1 := Lib.hid (row_below (HOW.out.alloc _) hb1)
   have hz1 := HB1.out.size
   clear hb1 HOW hc0 hc1 hc2
   go_wp2_with (at_builtin; refine app1Str rfl _ _ rfl w.heap.size _ _ _ rfl (HO1.out.alloc _) w1.heap.size lh rfl (NewBox.new w1 _ _) (by omega) (by first | omega | (simp; done) | (simp; omega)) ?_)
   intro v2 w2 hown2 hg2
   have hon := grown_only (HO1.out.alloc _) hg2
   obtain ⟨A2, c2, rfl, _, _, _⟩ := ownsRow_slice hown2
   have HB2 : Hid (Below w.heap.size w w2) := below_only (HB1.out.alloc HB1.out.size _) hon (Nat.le_refl _) (by simp; omega)
   rw [← strs_app, ← HT.out] at hown2
   have HO2 := Lib.hid hown2
   clear hown2 hg2 hon HO1
   go_wp2
   go_roundw
   case measure => simp [intOf]; omega
   case rel => exact ⟨k + 1, A2, c2, by omega, by go_num, rfl, HO2.out, HB2.out⟩
  ·obtain rfl : k = n := by omega
   have hlt : L.take k = L := List.take_of_length_le (by rw [HLL.out, List.length_map, HN.out]; exact Nat.le_refl _)
   rw [hlt] at HOW
   clear hlt
   go_wp2
   go_ret
   exact ⟨A0, c0, rfl, HOW.out, HBR.out⟩
set_option maxRecDepth 100000 in
set_option maxHeartbeats 4000000 in
theorem l12Taken_c (width : Int) (A : Option Addr) (c lo hi n : Nat) (l : List Rcp) (w : World) (hr : Rd w lo hi A (rcps l)) (hn : l.length = n) (hl : n ≤ 1048576) (hf : ∀ x ∈ l, x.fits) :
  Calls Tryz.prog 66 #[.int .i64 width, .slice A n c] w fun e w' => ∃ A' c', e = .returned (.slice A' n c') ∧ w'.ownsRow w.heap.size 9 1 (.slice A' n c') n (strs (l.map (rcpHashM width))) ∧ Below w.heap.size w w' := by
 have HN := Lib.hid hn
 have HR := Lib.hid hr
 have HF := Lib.hid hf
 obtain ⟨L, hL⟩ : ∃ L, L = l.map (rcpHashM width) := ⟨_, rfl⟩
 have HLL := Lib.hid hL
 rw [← hL]
 have hrow := row_made w 9 0
 have hbl : Below w.heap.size w (w.alloc (.cells #[] 9)) := (Below.refl _ _).alloc (Nat.le_refl _) _
 have HROW := Lib.hid hrow
 have HBL := Lib.hid hbl
 clear hn hr hf hL hrow hbl
 go_enter Tryz.func66, Tryz.ntmps66
 go_wp2
 go_loopw [5, 6] (fun v i wx => ∃ (k : Nat) (A0 : Option Addr) (c0 : Nat), k ≤ n ∧ i = .int .i64 k ∧ v = .slice A0 k c0 ∧ wx.ownsRow w.heap.size 9 1 (.slice A0 k c0) k (strs (L.take k)) ∧ Below w.heap.size w wx ) (fun _ i _ => n - (intOf i).toNat)
 case atStart => exact ⟨0, _, 0, Nat.zero_le _, rfl, rfl, HROW.out, HBL.out⟩
 case round =>
  obtain ⟨k, A0, c0, hk, rfl, rfl, how, hbr⟩ := hrel
  have HBR := Lib.hid hbr
  have HOW := Lib.hid how
  clear hbr how
  by_cases hlt : k < n
  ·skip
   obtain ⟨b, off, x, rfl, hb, hx, hc⟩ := rcp_cells (HR.out.below HBR.out) (k := k) (by rw [HN.out]; exact hlt)
   have hc0 := hc.1
   have hc1 := hc.2.1
   have hc2 := hc.2.2
   have HT : Hid (L.take (k + 1) = L.take k ++ [rcpHashM width x]) := Lib.hid (take_succ (by rw [HLL.out, List.getElem?_map, hx]; rfl))
   have HLH := Lib.hid (fun W => specReceiptHash_c width x W (HF.out x (List.mem_of_getElem? hx)))
   have hI : (k : Int) < n := by omega
   clear hc hx
   generalize rcpHashM width x = lh at *
   generalize rcpHashOk width x = lk at *
   go_wp2_with fail
   refine (HLH.out _).mono ?_
   rintro e w1 ⟨rfl, hb1⟩
   have HB1 := Lib.hid (below_then HBR.out hb1 (by first | exact HBR.out.size | (have := HBR.out.size; simp; omega)))
   have HO1 := Lib.hid (row_below HOW.out hb1)
   have hz1 := HB1.out.size
   clear hb1 HOW hc0 hc1 hc2
   go_wp2_with (at_builtin; refine app1Str rfl _ _ rfl w.heap.size _ _ _ rfl (HO1.out.alloc _) w1.heap.size lh rfl (NewBox.new w1 _ _) (by omega) (by first | omega | (simp; done) | (simp; omega)) ?_)
   intro v2 w2 hown2 hg2
   have hon := grown_only (HO1.out.alloc _) hg2
   obtain ⟨A2, c2, rfl, _, _, _⟩ := ownsRow_slice hown2
   have HB2 : Hid (Below w.heap.size w w2) := below_only (HB1.out.alloc HB1.out.size _) hon (Nat.le_refl _) (by simp; omega)
   rw [← strs_app, ← HT.out] at hown2
   have HO2 := Lib.hid hown2
   clear hown2 hg2 hon HO1
   go_wp2
   go_roundw
   case measure => simp [intOf]; omega
   case rel => exact ⟨k + 1, A2, c2, by omega, by go_num, rfl, HO2.out, HB2.out⟩
  ·obtain rfl : k = n := by omega
   have hlt : L.take k = L := List.take_of_length_le (by rw [HLL.out, List.length_map, HN.out]; exact Nat.le_refl _)
   rw [hlt] at HOW
   clear hlt
   go_wp2
   go_ret
   exact ⟨A0, c0, rfl, HOW.out, HBR.out⟩
end Go.Proofs.YtmmepogjocfefaaGreat

namespace Go.Proofs.YtmmepogjocfefaaGreat
set_option linter.unusedVariables false
set_option linter.unusedSimpArgs false
open Go.RowKit

theorem lists_ne {l1 l2 : List ByteArray} {k : Nat} {s t : ByteArray} (h1 : l1[k]? = some s) (h2 : l2[k]? = some t) (h : (s.toList == t.toList) = false) : decide (l1 = l2) = false := by
 rw [beq_iff] at h
 refine decide_eq_false (fun e => of_decide_eq_false h ?_)
 rw [e, h2] at h1
 exact (Option.some.inj h1).symm
theorem takes_eq {l1 l2 : List ByteArray} {k : Nat} {s t : ByteArray} (h0 : l1.take k = l2.take k) (h1 : l1[k]? = some s) (h2 : l2[k]? = some t) (h : (s.toList == t.toList) = true) : l1.take (k + 1) = l2.take (k + 1) := by
 rw [beq_iff] at h
 rw [take_succ h1, take_succ h2, h0, of_decide_eq_true h]
theorem lens_ne {l1 l2 : List ByteArray} (h : ¬ l1.length = l2.length) : decide (l1 = l2) = false := decide_eq_false (fun e => h (by rw [e]))
set_option maxRecDepth 100000 in
set_option maxHeartbeats 4000000 in
theorem eqStr_c (A1 A2 : Option Addr) (c1 c2 lo1 hi1 lo2 hi2 n1 n2 : Nat) (l1 l2 : List ByteArray) (w : World) (hr1 : Rd w lo1 hi1 A1 (strs l1)) (hr2 : Rd w lo2 hi2 A2 (strs l2)) (hn1 : l1.length = n1) (hn2 : l2.length = n2) (h1 : n1 ≤ 1048576) (h2 : n2 ≤ 1048576) :
  Calls Tryz.prog 168 #[.slice A1 n1 c1, .slice A2 n2 c2] w fun e w' => e = .returned (.bool (decide (l1 = l2))) ∧ Below w.heap.size w w' := by
 have HN1 := Lib.hid hn1
 have HN2 := Lib.hid hn2
 have HR1 := Lib.hid hr1
 have HR2 := Lib.hid hr2
 clear hn1 hn2 hr1 hr2
 go_enter Tryz.func168, Tryz.ntmps168
 by_cases hnn : n1 = n2
 ·subst hnn
  go_wp2
  go_loopw [5, 13] (fun _ i wr => ∃ (k : Nat), k ≤ n1 ∧ i = .int .i64 k ∧ l1.take k = l2.take k ∧ Below w.heap.size w wr) (fun _ i _ => n1 - (intOf i).toNat)
  case atStart => exact ⟨0, Nat.zero_le _, rfl, rfl, Below.refl _ _⟩
  case round =>
   obtain ⟨k, hk, rfl, hst, hb0⟩ := hrel
   have HST := Lib.hid hst
   have HB0 := Lib.hid hb0
   clear hst hb0
   by_cases hlt : k < n1
   ·obtain ⟨b, off, s, rfl, hb, hks, hc⟩ := (HR1.out.below HB0.out).str (k := k) (by rw [HN1.out]; exact hlt)
    obtain ⟨b2, off2, t, rfl, hb2, hks2, hc2⟩ := (HR2.out.below HB0.out).str (k := k) (by rw [HN2.out]; exact hlt)
    have hI : (k : Int) < n1 := by omega
    rcases hq : (s.toList == t.toList) with _ | _
    ·have HNE := Lib.hid (lists_ne hks hks2 hq)
     have hne := bne_of_beq hq
     clear hks hks2
     go_wp2_with fail
     go_quiet (fail)
     generalize hw5 : wr.drewN _ = w5
     have HB5 : Hid (Below w.heap.size w w5) := by rw [Hid, ← hw5]; exact below_then HB0.out (below_drewN _ _) HB0.out.size
     clear hw5 hc hc2
     go_wp2
     go_ret
     exact ⟨ret_bool (by rw [HNE.out]), HB5.out⟩
    ·have HT := Lib.hid (takes_eq HST.out hks hks2 hq)
     have hne := bne_of_beq hq
     clear hks hks2
     go_wp2_with fail
     go_quiet (fail)
     generalize hw5 : wr.drewN _ = w5
     have HB5 : Hid (Below w.heap.size w w5) := by rw [Hid, ← hw5]; exact below_then HB0.out (below_drewN _ _) HB0.out.size
     clear hw5 hc hc2
     go_wp2
     go_roundw
     case rel => exact ⟨k + 1, by omega, by go_num, HT.out, HB5.out⟩
     case measure => simp [intOf]; omega
   ·obtain rfl : k = n1 := by omega
    have he : Hid (decide (l1 = l2) = true) := Lib.hid (decide_eq_true (by
     have h := HST.out
     rwa [List.take_of_length_le (by rw [HN1.out]; exact Nat.le_refl _), List.take_of_length_le (by rw [HN2.out]; exact Nat.le_refl _)] at h))
    go_wp2
    go_ret
    exact ⟨ret_bool (by rw [he.out]), HB0.out⟩
 ·have he := Lib.hid (lens_ne (l1 := l1) (l2 := l2) (by rw [HN1.out, HN2.out]; exact hnn))
  have hbq : ((n1 : Int) != (n2 : Int)) = true := bne_iff_ne.2 (by omega)
  go_wp2
  go_ret
  exact ⟨ret_bool (by rw [he.out]), Below.refl _ _⟩
/-- alike ranges -/
def sameR (z1 : Int) (l1 : List ByteArray) (z2 : Int) (l2 : List ByteArray) : Bool := decide (z1 = z2) && decide (l1 = l2)
set_option maxRecDepth 100000 in
set_option maxHeartbeats 4000000 in
theorem sameRange_c (z1 z2 : Int) (A1 A2 : Option Addr) (c1 c2 lo1 hi1 lo2 hi2 n1 n2 : Nat) (l1 l2 : List ByteArray) (w : World) (hr1 : Rd w lo1 hi1 A1 (strs l1)) (hr2 : Rd w lo2 hi2 A2 (strs l2)) (hn1 : l1.length = n1) (hn2 : l2.length = n2) (h1 : n1 ≤ 1048576) (h2 : n2 ≤ 1048576) :
  Calls Tryz.prog 125 #[.agg #[.int .i64 z1, .slice A1 n1 c1], .agg #[.int .i64 z2, .slice A2 n2 c2]] w fun e w' => e = .returned (.bool (sameR z1 l1 z2 l2)) ∧ Below w.heap.size w w' := by
 have HEQ := Lib.hid (fun W (a : Rd W 0 W.heap.size A1 (strs l1)) (b : Rd W 0 W.heap.size A2 (strs l2)) => eqStr_c A1 A2 c1 c2 0 W.heap.size 0 W.heap.size n1 n2 l1 l2 W a b hn1 hn2 h1 h2)
 have HDEF : Hid (sameR z1 l1 z2 l2 = (decide (z1 = z2) && decide (l1 = l2))) := Lib.hid rfl
 have HB : Hid (Below w.heap.size w w) := Below.refl _ _
 have HOX : Hid (Rd w (0) (w.heap.size) (A1) (strs l1)) := Rd.base hr1
 have HOY : Hid (Rd w (0) (w.heap.size) (A2) (strs l2)) := Rd.base hr2
 clear hr1 hr2 hn1 hn2
 generalize sameR z1 l1 z2 l2 = sr at *
 generalize decide (l1 = l2) = de at *
 go_enter Tryz.func125, Tryz.ntmps125
 rcases hz : (z1 == z2) with _ | _
 ·have hz2 : Hid (decide (z1 = z2) = false) := Lib.hid (decide_eq_false (by simpa using hz))
  go_wp2
  refine bodyPost_named (fun w7 hw => ?_)
  have hb7 : Hid (Below w.heap.size w w7) := by rw [Hid, hw]; exact (by ((repeat (first | ((with_reducible refine Below.alloc ?_ ?_ _); rotate_left 1; (focus (first | omega | (simp; done) | (simp; omega)))) | (with_reducible refine Below.drew ?_) | ((with_reducible refine Below.setCell ?_ ?_ _); rotate_left 1; (focus (first | omega | (simp; done) | (simp; omega)))))); exact HB.out))
  clear hw
  go_ret
  exact ⟨ret_bool (by rw [HDEF.out, hz2.out]; rfl), hb7.out⟩
 ·have hz2 : Hid (decide (z1 = z2) = true) := Lib.hid (decide_eq_true (by simpa using hz))
  go_wp2_with fail
  refine calls_named (fun w1 hw => ?_)
  have hz1 : w.heap.size + 2 ≤ w1.heap.size := by rw [hw]; first | omega | (simp [World.setCell]; done) | (simp [World.setCell]; omega)
  have hzz1 : w.heap.size ≤ w1.heap.size := by omega
  have hbn : Below w.heap.size w w1 := by rw [hw]; exact (by ((repeat (first | ((with_reducible refine Below.alloc ?_ ?_ _); rotate_left 1; (focus (first | omega | (simp; done) | (simp; omega)))) | (with_reducible refine Below.drew ?_) | ((with_reducible refine Below.setCell ?_ ?_ _); rotate_left 1; (focus (first | omega | (simp; done) | (simp; omega)))))); exact Below.refl _ _))
  replace HB := Lib.hid (below_then HB.out hbn HB.out.size)
  replace HOX := Lib.hid (HOX.out.below hbn)
  replace HOY := Lib.hid (HOY.out.below hbn)
  clear hbn
  have HXa : Hid (NewBox w1 (w.heap.size) [.int .i64 z1, .slice A1 n1 c1]) := by rw [Hid, hw]; exact ⟨by first | omega | (simp [World.setCell]; done) | (simp [World.setCell]; omega), fun o => by rcases o with _ | _ | o <;> go_simp, fun o => by go_simp⟩
  have hxa := HXa.out.2.1
  have hfa := HXa.out.2.2
  have hka := HXa.out.1
  have HXb : Hid (NewBox w1 (w.heap.size + 1) [.int .i64 z2, .slice A2 n2 c2]) := by rw [Hid, hw]; exact ⟨by first | omega | (simp [World.setCell]; done) | (simp [World.setCell]; omega), fun o => by rcases o with _ | _ | o <;> go_simp, fun o => by go_simp⟩
  have hxb := HXb.out.2.1
  have hfb := HXb.out.2.2
  have hkb := HXb.out.1
  clear hw
  refine (HEQ.out _ HOX.out.base HOY.out.base).mono ?_
  rintro e w2 ⟨rfl, hb⟩
  have hzw2 : w1.heap.size ≤ w2.heap.size := hb.size
  have hzzw2 : w.heap.size ≤ w2.heap.size := by omega
  replace HB := Lib.hid (below_then HB.out hb HB.out.size)
  replace HOX := Lib.hid (HOX.out.below hb)
  replace HOY := Lib.hid (HOY.out.below hb)
  replace HXa := Lib.hid (HXa.out.below hb)
  clear hxa hfa hka
  have hxa := HXa.out.2.1
  have hfa := HXa.out.2.2
  have hka := HXa.out.1
  replace HXb := Lib.hid (HXb.out.below hb)
  clear hxb hfb hkb
  have hxb := HXb.out.2.1
  have hfb := HXb.out.2.2
  have hkb := HXb.out.1
  clear hb
  go_wp2
  go_ret
  exact ⟨ret_bool (by rw [HDEF.out, hz2.out]; rfl), HB.out⟩
/-- alike seals -/
def sameS (z1 : Int) (l1 : List ByteArray) (z2 : Int) (l2 : List ByteArray) (h : Hd) (y1 : Int) (j1 : List ByteArray) (y2 : Int) (j2 : List ByteArray) (g : Hd) : Bool := sameR z1 l1 y1 j1 && sameR z2 l2 y2 j2 && decide (h = g)
set_option maxRecDepth 100000 in
set_option maxHeartbeats 4000000 in
theorem sameSeal_c (z1 z2 y1 y2 : Int) (A1 A2 B1 B2 : Option Addr) (c1 c2 d1 d2 lo1 hi1 lo2 hi2 lo3 hi3 lo4 hi4 m1 m2 k1 k2 : Nat) (l1 l2 j1 j2 : List ByteArray) (h g : Hd) (w : World) (hr1 : Rd w lo1 hi1 A1 (strs l1)) (hr2 : Rd w lo2 hi2 A2 (strs l2)) (hr3 : Rd w lo3 hi3 B1 (strs j1)) (hr4 : Rd w lo4 hi4 B2 (strs j2))
  (hn1 : l1.length = m1) (hn2 : l2.length = m2) (hn3 : j1.length = k1) (hn4 : j2.length = k2) (hm1 : m1 ≤ 1048576) (hm2 : m2 ≤ 1048576) (hm3 : k1 ≤ 1048576) (hm4 : k2 ≤ 1048576) (hh : h.fits) (hg : g.fits) :
  Calls Tryz.prog 74 #[.agg #[.int .i64 z1, .slice A1 m1 c1, .int .i64 z2, .slice A2 m2 c2, .int .i64 h.num, .int .i64 h.size, .string h.root, .int .i64 h.taken, .string h.troot], .agg #[.int .i64 y1, .slice B1 k1 d1, .int .i64 y2, .slice B2 k2 d2, .int .i64 g.num, .int .i64 g.size, .string g.root, .int .i64 g.taken, .string g.troot]] w fun e w' => e = .returned (.bool (sameS z1 l1 z2 l2 h y1 j1 y2 j2 g)) ∧ Below w.heap.size w w' := by
 have HE1 := Lib.hid (fun W (a : Rd W 0 W.heap.size A1 (strs l1)) (b : Rd W 0 W.heap.size B1 (strs j1)) => sameRange_c z1 y1 A1 B1 c1 d1 0 W.heap.size 0 W.heap.size m1 k1 l1 j1 W a b hn1 hn3 hm1 hm3)
 have HE2 := Lib.hid (fun W (a : Rd W 0 W.heap.size A2 (strs l2)) (b : Rd W 0 W.heap.size B2 (strs j2)) => sameRange_c z2 y2 A2 B2 c2 d2 0 W.heap.size 0 W.heap.size m2 k2 l2 j2 W a b hn2 hn4 hm2 hm4)
 have heq := eqlHd h g hh hg
 have HDEF : Hid (sameS z1 l1 z2 l2 h y1 j1 y2 j2 g = (sameR z1 l1 y1 j1 && sameR z2 l2 y2 j2 && decide (h = g))) := Lib.hid rfl
 have HB : Hid (Below w.heap.size w w) := Below.refl _ _
 have HOX : Hid (Rd w (0) (w.heap.size) (A1) (strs l1)) := Rd.base hr1
 have HOY : Hid (Rd w (0) (w.heap.size) (A2) (strs l2)) := Rd.base hr2
 have HOU : Hid (Rd w (0) (w.heap.size) (B1) (strs j1)) := Rd.base hr3
 have HOV : Hid (Rd w (0) (w.heap.size) (B2) (strs j2)) := Rd.base hr4
 clear hr1 hr2 hr3 hr4 hn1 hn2 hn3 hn4 hh hg
 generalize sameS z1 l1 z2 l2 h y1 j1 y2 j2 g = ss at *
 generalize sameR z1 l1 y1 j1 = q1 at *
 generalize sameR z2 l2 y2 j2 = q2 at *
 generalize decide (h = g) = q3 at *
 go_enter Tryz.func74, Tryz.ntmps74
 go_wp2_with fail
 refine calls_named (fun w1 hw => ?_)
 have hz1 : w.heap.size + 2 ≤ w1.heap.size := by rw [hw]; first | omega | (simp [World.setCell]; done) | (simp [World.setCell]; omega)
 have hzz1 : w.heap.size ≤ w1.heap.size := by omega
 have hbn : Below w.heap.size w w1 := by rw [hw]; exact (by ((repeat (first | ((with_reducible refine Below.alloc ?_ ?_ _); rotate_left 1; (focus (first | omega | (simp; done) | (simp; omega)))) | (with_reducible refine Below.drew ?_) | ((with_reducible refine Below.setCell ?_ ?_ _); rotate_left 1; (focus (first | omega | (simp; done) | (simp; omega)))))); exact Below.refl _ _))
 replace HB := Lib.hid (below_then HB.out hbn HB.out.size)
 replace HOX := Lib.hid (HOX.out.below hbn)
 replace HOY := Lib.hid (HOY.out.below hbn)
 replace HOU := Lib.hid (HOU.out.below hbn)
 replace HOV := Lib.hid (HOV.out.below hbn)
 clear hbn
 have HXa : Hid (NewBox w1 (w.heap.size) [.int .i64 z1, .slice A1 m1 c1, .int .i64 z2, .slice A2 m2 c2, .int .i64 h.num, .int .i64 h.size, .string h.root, .int .i64 h.taken, .string h.troot]) := by rw [Hid, hw]; exact ⟨by first | omega | (simp [World.setCell]; done) | (simp [World.setCell]; omega), fun o => by rcases o with _ | _ | _ | _ | _ | _ | _ | _ | _ | o <;> go_simp, fun o => by go_simp⟩
 have hxa := HXa.out.2.1
 have hfa := HXa.out.2.2
 have hka := HXa.out.1
 have HXb : Hid (NewBox w1 (w.heap.size + 1) [.int .i64 y1, .slice B1 k1 d1, .int .i64 y2, .slice B2 k2 d2, .int .i64 g.num, .int .i64 g.size, .string g.root, .int .i64 g.taken, .string g.troot]) := by rw [Hid, hw]; exact ⟨by first | omega | (simp [World.setCell]; done) | (simp [World.setCell]; omega), fun o => by rcases o with _ | _ | _ | _ | _ | _ | _ | _ | _ | o <;> go_simp, fun o => by go_simp⟩
 have hxb := HXb.out.2.1
 have hfb := HXb.out.2.2
 have hkb := HXb.out.1
 clear hw
 refine (HE1.out _ HOX.out.base HOU.out.base).mono ?_
 rintro e w2 ⟨rfl, hb⟩
 have hzw2 : w1.heap.size ≤ w2.heap.size := hb.size
 have hzzw2 : w.heap.size ≤ w2.heap.size := by omega
 replace HB := Lib.hid (below_then HB.out hb HB.out.size)
 replace HOX := Lib.hid (HOX.out.below hb)
 replace HOY := Lib.hid (HOY.out.below hb)
 replace HOU := Lib.hid (HOU.out.below hb)
 replace HOV := Lib.hid (HOV.out.below hb)
 replace HXa := Lib.hid (HXa.out.below hb)
 clear hxa hfa hka
 have hxa := HXa.out.2.1
 have hfa := HXa.out.2.2
 have hka := HXa.out.1
 replace HXb := Lib.hid (HXb.out.below hb)
 clear hxb hfb hkb
 have hxb := HXb.out.2.1
 have hfb := HXb.out.2.2
 have hkb := HXb.out.1
 clear hb
 rcases q1 with _ | _
 ·clear heq
  go_wp2
  go_ret
  exact ⟨ret_bool (by rw [HDEF.out]; rfl), HB.out⟩
 ·go_wp2_with fail
  refine calls_named (fun w3 hw => ?_)
  have hz3 : w2.heap.size + 0 ≤ w3.heap.size := by rw [hw]; first | omega | (simp [World.setCell]; done) | (simp [World.setCell]; omega)
  have hzz3 : w.heap.size ≤ w3.heap.size := by omega
  have hbn : Below w2.heap.size w2 w3 := by rw [hw]; exact (by ((repeat (first | ((with_reducible refine Below.alloc ?_ ?_ _); rotate_left 1; (focus (first | omega | (simp; done) | (simp; omega)))) | (with_reducible refine Below.drew ?_) | ((with_reducible refine Below.setCell ?_ ?_ _); rotate_left 1; (focus (first | omega | (simp; done) | (simp; omega)))))); exact Below.refl _ _))
  replace HB := Lib.hid (below_then HB.out hbn HB.out.size)
  replace HOX := Lib.hid (HOX.out.below hbn)
  replace HOY := Lib.hid (HOY.out.below hbn)
  replace HOU := Lib.hid (HOU.out.below hbn)
  replace HOV := Lib.hid (HOV.out.below hbn)
  replace HXa := Lib.hid (HXa.out.below hbn)
  clear hxa hfa hka
  have hxa := HXa.out.2.1
  have hfa := HXa.out.2.2
  have hka := HXa.out.1
  replace HXb := Lib.hid (HXb.out.below hbn)
  clear hxb hfb hkb
  have hxb := HXb.out.2.1
  have hfb := HXb.out.2.2
  have hkb := HXb.out.1
  clear hbn
  clear hw
  refine (HE2.out _ HOY.out.base HOV.out.base).mono ?_
  rintro e w4 ⟨rfl, hb⟩
  have hzw4 : w3.heap.size ≤ w4.heap.size := hb.size
  have hzzw4 : w.heap.size ≤ w4.heap.size := by omega
  replace HB := Lib.hid (below_then HB.out hb HB.out.size)
  replace HOX := Lib.hid (HOX.out.below hb)
  replace HOY := Lib.hid (HOY.out.below hb)
  replace HOU := Lib.hid (HOU.out.below hb)
  replace HOV := Lib.hid (HOV.out.below hb)
  replace HXa := Lib.hid (HXa.out.below hb)
  clear hxa hfa hka
  have hxa := HXa.out.2.1
  have hfa := HXa.out.2.2
  have hka := HXa.out.1
  replace HXb := Lib.hid (HXb.out.below hb)
  clear hxb hfb hkb
  have hxb := HXb.out.2.1
  have hfb := HXb.out.2.2
  have hkb := HXb.out.1
  clear hb
  rcases q2 with _ | _
  ·clear heq
   go_wp2
   go_ret
   exact ⟨ret_bool (by rw [HDEF.out]; rfl), HB.out⟩
  ·go_wp2
   go_ret
   exact ⟨ret_bool (by rw [HDEF.out]; rfl), HB.out⟩
end Go.Proofs.YtmmepogjocfefaaGreat

namespace Go.Proofs.YtmmepogjocfefaaGreat
set_option linter.unusedVariables false
set_option linter.unusedSimpArgs false
open Go.RowKit

set_option maxRecDepth 100000 in
set_option maxHeartbeats 4000000 in
theorem last_c (p nh ch lo hi : Nat) (H : Option Addr) (hs : List Hd) (w : World) (hp : p < w.heap.size) (c3 : w.cell? ⟨p, 3, none⟩ = some (.slice H nh ch)) (hr : Rd w lo hi H (hds hs)) (hn : hs.length = nh) (hpos : 0 < nh) (hl : nh ≤ 1048576) :
  Calls Tryz.prog 102 #[.pointer (some ⟨p, 0, none⟩)] w fun e w' => e = .returned (.agg #[.int .i64 (lastHd hs).num, .int .i64 (lastHd hs).size, .string (lastHd hs).root, .int .i64 (lastHd hs).taken, .string (lastHd hs).troot]) ∧ Below w.heap.size w w' := by
 obtain ⟨q, hq⟩ : ∃ q, nh = q + 1 := ⟨nh - 1, by omega⟩
 obtain ⟨b, off, x, rfl, hb, hx, hd⟩ := hd_cells hr (k := q) (by omega)
 have hxl : lastHd hs = x := by
  have h := lastHd_get (hs := hs) (by omega)
  rw [hn, hq, Nat.add_sub_cancel, hx] at h
  exact (Option.some.inj h).symm
 rw [hxl]
 have d0 := hd.1
 have d1 := hd.2.1
 have d2 := hd.2.2.1
 have d3 := hd.2.2.2.1
 have d4 := hd.2.2.2.2
 have E1 : IntKind.i64.wrap ((nh : Int) - 1) = q := by rw [IntKind.wrap_i64]; omega
 have E2 : (nh : Int) - 1 = q := by omega
 have E3 : (q : Int) < nh := by omega
 have E4 : IntKind.i64.wrap (q : Int) = q := by rw [IntKind.wrap_i64]; omega
 clear hx hd hr hxl hn hpos hq
 have HB : Hid (Below w.heap.size w w) := Below.refl _ _
 go_enter Tryz.func102, Tryz.ntmps102
 go_wp2_with fail
 refine wp_named (fun w1 hw => ?_)
 have hz1 : w.heap.size + 1 ≤ w1.heap.size := by rw [hw]; first | omega | (simp [World.setCell]; done) | (simp [World.setCell]; omega)
 have hzz1 : w.heap.size ≤ w1.heap.size := by omega
 have hbn : Below w.heap.size w w1 := by rw [hw]; exact (by ((repeat (first | ((with_reducible refine Below.alloc ?_ ?_ _); rotate_left 1; (focus (first | omega | (simp; done) | (simp; omega)))) | (with_reducible refine Below.drew ?_) | ((with_reducible refine Below.setCell ?_ ?_ _); rotate_left 1; (focus (first | omega | (simp; done) | (simp; omega)))))); exact Below.refl _ _))
 replace HB := Lib.hid (below_then HB.out hbn HB.out.size)
 clear hbn
 have HXq : Hid (NewBox w1 (w.heap.size) [.int .i64 0, .int .i64 0, .string ⟨#[]⟩, .int .i64 0, .string ⟨#[]⟩]) := by rw [Hid, hw]; exact ⟨by first | omega | (simp [World.setCell]; done) | (simp [World.setCell]; omega), fun o => by rcases o with _ | _ | _ | _ | _ | o <;> go_simp, fun o => by go_simp⟩
 have hxq := HXq.out.2.1
 have hfq := HXq.out.2.2
 have hkq := HXq.out.1
 clear hw
 have hbp : Below w.heap.size w w1 := HB.out
 replace c3 := (hbp.cell (p := ⟨p, 3, none⟩) hp).trans c3
 replace d0 := (hbp.cell (p := ⟨b, off + q * 5, none⟩) hb).trans d0
 replace d1 := (hbp.cell (p := ⟨b, off + q * 5 + 1, none⟩) hb).trans d1
 replace d2 := (hbp.cell (p := ⟨b, off + q * 5 + 2, none⟩) hb).trans d2
 replace d3 := (hbp.cell (p := ⟨b, off + q * 5 + 3, none⟩) hb).trans d3
 replace d4 := (hbp.cell (p := ⟨b, off + q * 5 + 4, none⟩) hb).trans d4
 clear hbp
 obtain ⟨F, HF⟩ : ∃ F : Facts, Hid (F = fun iq xq tqs dsq uq => match iq with
  | 0 => xq.v = .pointer (some ⟨p, 0, none⟩)
  | 1 => xq.v = .pointer (some ⟨p, 0, none⟩)
  | 2 => xq.v = .pointer (some ⟨p, 3, none⟩)
  | 3 => xq.v = .slice (some ⟨b, off, none⟩) nh ch
  | 4 => xq.v = .pointer (some ⟨p, 0, none⟩)
  | 5 => xq.v = .pointer (some ⟨p, 0, none⟩)
  | 6 => xq.v = .pointer (some ⟨p, 3, none⟩)
  | 7 => xq.v = .slice (some ⟨b, off, none⟩) nh ch
  | 8 => xq.v = .int .i64 nh
  | 9 => xq.v = .int .i64 q
  | 10 => xq.v = .pointer (some ⟨b, off + q * 5, none⟩)
  | 11 => xq.v = .agg #[.int .i64 x.num, .int .i64 x.size, .string x.root, .int .i64 x.taken, .string x.troot]
  | 12 => NewBox uq (w.heap.size) [.int .i64 x.num, .int .i64 x.size, .string x.root, .int .i64 x.taken, .string x.troot]
  | _ => False) := ⟨_, rfl⟩
 refine wp_region_facts [[], [], [], [], [], [], [], [], [], [], [], [], []] [[], [], [], [], [], [], [], [], [], [], [], [], []] [some 3, some 4, some 5, some 6, some 7, some 8, some 9, some 10, some 11, some 12, some 13, some 14, none] (some 12) (w.heap.size) (w.heap.size + 1) (.inr (by omega)) F (by kernel_rfl) (by kernel_rfl) (by kernel_rfl) ?_ ⟨?_, ?_, ?_, ?_, ?_, ?_, ?_, ?_, ?_, ?_, ?_, ?_, ?_, trivial⟩ ?_
 ·rw [HF.out]; intro iq xq tqs dsq uq u' hi hf hs hW hx hbk
  have kx : ∀ b, xq.s ≤ b → b < xq.e → u'.heap[b]? = uq.heap[b]? := fun b h1 h2 => hbk b (.inr (.inl ⟨h1, h2⟩))
  have kt : ∀ t ∈ tqs, ∀ b, t.s ≤ b → b < t.e → u'.heap[b]? = uq.heap[b]? := fun t ht b h1 h2 => hbk b (.inr (.inr ⟨t, ht, h1, h2⟩))
  match iq with
  | 0 => exact hf
  | 1 => exact hf
  | 2 => exact hf
  | 3 => exact hf
  | 4 => exact hf
  | 5 => exact hf
  | 6 => exact hf
  | 7 => exact hf
  | 8 => exact hf
  | 9 => exact hf
  | 10 => exact hf
  | 11 => exact hf
  | 12 => exact NewBox.keep hf hs (hbk _ (.inl ⟨hkq, .inr (.inr rfl)⟩))
 ·intro gh ρ u hc hf1 hg1 hd h0 hb he ha hF
  have r0 : ρ (.tmp 0) = .pointer (some ⟨p, 0, none⟩) := (h0 0 (by decide +kernel)).trans rfl
  clear  hd h0 he ha hF
  go_simp
  rw [HF.out]
  exact ⟨OnlyL.refl _ _, rfl⟩
 ·intro gh ρ u hc hf1 hg1 hd h0 hb he ha hF
  have r3 : ρ (.tmp 3) = .pointer (some ⟨p, 0, none⟩) := by have h := hF 0 (by decide +kernel) (by decide +kernel); rw [HF.out] at h; exact (hd 0 (by decide +kernel) 3 (by kernel_rfl)).trans h
  clear  hd h0 he ha hF
  go_simp
  rw [HF.out]
  exact ⟨OnlyL.refl _ _, rfl⟩
 ·intro gh ρ u hc hf1 hg1 hd h0 hb he ha hF
  have r4 : ρ (.tmp 4) = .pointer (some ⟨p, 0, none⟩) := by have h := hF 1 (by decide +kernel) (by decide +kernel); rw [HF.out] at h; exact (hd 1 (by decide +kernel) 4 (by kernel_rfl)).trans h
  clear  hd h0 he ha hF
  go_simp
  rw [HF.out]
  exact ⟨OnlyL.refl _ _, rfl⟩
 ·intro gh ρ u hc hf1 hg1 hd h0 hb he ha hF
  first | (replace hb : Below w1.heap.size w1 u := hb.drew.below (by decide +kernel)) | (replace hb : Only (w.heap.size) (w.heap.size + 1) w1 u := hb.drew.only)
  have hbz : w1.heap.size ≤ u.heap.size := hb.size
  have r5 : ρ (.tmp 5) = .pointer (some ⟨p, 3, none⟩) := by have h := hF 2 (by decide +kernel) (by decide +kernel); rw [HF.out] at h; exact (hd 2 (by decide +kernel) 5 (by kernel_rfl)).trans h
  replace c3 := by first | exact cell_later hb c3 | exact celo hb c3 (by omega)
  replace d0 := by first | exact cell_later hb d0 | exact celo hb d0 (by omega)
  replace d1 := by first | exact cell_later hb d1 | exact celo hb d1 (by omega)
  replace d2 := by first | exact cell_later hb d2 | exact celo hb d2 (by omega)
  replace d3 := by first | exact cell_later hb d3 | exact celo hb d3 (by omega)
  replace d4 := by first | exact cell_later hb d4 | exact celo hb d4 (by omega)
  clear  hd h0 he ha hF
  go_simp
  rw [HF.out]
  exact ⟨OnlyL.refl _ _, rfl⟩
 ·intro gh ρ u hc hf1 hg1 hd h0 hb he ha hF
  have r0 : ρ (.tmp 0) = .pointer (some ⟨p, 0, none⟩) := (h0 0 (by decide +kernel)).trans rfl
  clear  hd h0 he ha hF
  go_simp
  rw [HF.out]
  exact ⟨OnlyL.refl _ _, rfl⟩
 ·intro gh ρ u hc hf1 hg1 hd h0 hb he ha hF
  have r7 : ρ (.tmp 7) = .pointer (some ⟨p, 0, none⟩) := by have h := hF 4 (by decide +kernel) (by decide +kernel); rw [HF.out] at h; exact (hd 4 (by decide +kernel) 7 (by kernel_rfl)).trans h
  clear  hd h0 he ha hF
  go_simp
  rw [HF.out]
  exact ⟨OnlyL.refl _ _, rfl⟩
 ·intro gh ρ u hc hf1 hg1 hd h0 hb he ha hF
  have r8 : ρ (.tmp 8) = .pointer (some ⟨p, 0, none⟩) := by have h := hF 5 (by decide +kernel) (by decide +kernel); rw [HF.out] at h; exact (hd 5 (by decide +kernel) 8 (by kernel_rfl)).trans h
  clear  hd h0 he ha hF
  go_simp
  rw [HF.out]
  exact ⟨OnlyL.refl _ _, rfl⟩
 ·intro gh ρ u hc hf1 hg1 hd h0 hb he ha hF
  first | (replace hb : Below w1.heap.size w1 u := hb.drew.below (by decide +kernel)) | (replace hb : Only (w.heap.size) (w.heap.size + 1) w1 u := hb.drew.only)
  have hbz : w1.heap.size ≤ u.heap.size := hb.size
  have r9 : ρ (.tmp 9) = .pointer (some ⟨p, 3, none⟩) := by have h := hF 6 (by decide +kernel) (by decide +kernel); rw [HF.out] at h; exact (hd 6 (by decide +kernel) 9 (by kernel_rfl)).trans h
  replace c3 := by first | exact cell_later hb c3 | exact celo hb c3 (by omega)
  replace d0 := by first | exact cell_later hb d0 | exact celo hb d0 (by omega)
  replace d1 := by first | exact cell_later hb d1 | exact celo hb d1 (by omega)
  replace d2 := by first | exact cell_later hb d2 | exact celo hb d2 (by omega)
  replace d3 := by first | exact cell_later hb d3 | exact celo hb d3 (by omega)
  replace d4 := by first | exact cell_later hb d4 | exact celo hb d4 (by omega)
  clear  hd h0 he ha hF
  go_simp
  rw [HF.out]
  exact ⟨OnlyL.refl _ _, rfl⟩
 ·intro gh ρ u hc hf1 hg1 hd h0 hb he ha hF
  have r10 : ρ (.tmp 10) = .slice (some ⟨b, off, none⟩) nh ch := by have h := hF 7 (by decide +kernel) (by decide +kernel); rw [HF.out] at h; exact (hd 7 (by decide +kernel) 10 (by kernel_rfl)).trans h
  clear  hd h0 he ha hF
  go_simp
  rw [HF.out]
  exact ⟨OnlyL.refl _ _, rfl⟩
 ·intro gh ρ u hc hf1 hg1 hd h0 hb he ha hF
  have r11 : ρ (.tmp 11) = .int .i64 nh := by have h := hF 8 (by decide +kernel) (by decide +kernel); rw [HF.out] at h; exact (hd 8 (by decide +kernel) 11 (by kernel_rfl)).trans h
  clear  hd h0 he ha hF
  go_simp
  rw [HF.out]
  exact ⟨OnlyL.refl _ _, rfl⟩
 ·intro gh ρ u hc hf1 hg1 hd h0 hb he ha hF
  have r6 : ρ (.tmp 6) = .slice (some ⟨b, off, none⟩) nh ch := by have h := hF 3 (by decide +kernel) (by decide +kernel); rw [HF.out] at h; exact (hd 3 (by decide +kernel) 6 (by kernel_rfl)).trans h
  have r12 : ρ (.tmp 12) = .int .i64 q := by have h := hF 9 (by decide +kernel) (by decide +kernel); rw [HF.out] at h; exact (hd 9 (by decide +kernel) 12 (by kernel_rfl)).trans h
  clear  hd h0 he ha hF
  go_simp
  rw [HF.out]
  exact ⟨OnlyL.refl _ _, rfl⟩
 ·intro gh ρ u hc hf1 hg1 hd h0 hb he ha hF
  first | (replace hb : Below w1.heap.size w1 u := hb.drew.below (by decide +kernel)) | (replace hb : Only (w.heap.size) (w.heap.size + 1) w1 u := hb.drew.only)
  have hbz : w1.heap.size ≤ u.heap.size := hb.size
  have r13 : ρ (.tmp 13) = .pointer (some ⟨b, off + q * 5, none⟩) := by have h := hF 10 (by decide +kernel) (by decide +kernel); rw [HF.out] at h; exact (hd 10 (by decide +kernel) 13 (by kernel_rfl)).trans h
  replace c3 := by first | exact cell_later hb c3 | exact celo hb c3 (by omega)
  replace d0 := by first | exact cell_later hb d0 | exact celo hb d0 (by omega)
  replace d1 := by first | exact cell_later hb d1 | exact celo hb d1 (by omega)
  replace d2 := by first | exact cell_later hb d2 | exact celo hb d2 (by omega)
  replace d3 := by first | exact cell_later hb d3 | exact celo hb d3 (by omega)
  replace d4 := by first | exact cell_later hb d4 | exact celo hb d4 (by omega)
  clear  hd h0 he ha hF
  go_simp
  rw [HF.out]
  exact ⟨OnlyL.refl _ _, rfl⟩
 ·intro gh ρ u hc hf1 hg1 hd h0 hb he ha hF
  first | (replace hb : Below w1.heap.size w1 u := hb.drew.below (by decide +kernel)) | (replace hb : Only (w.heap.size) (w.heap.size + 1) w1 u := hb.drew.only)
  have hbz : w1.heap.size ≤ u.heap.size := hb.size
  have r2 : ρ (.tmp 2) = .pointer (some ⟨w.heap.size, 0, none⟩) := (h0 2 (by decide +kernel)).trans rfl
  have r14 : ρ (.tmp 14) = .agg #[.int .i64 x.num, .int .i64 x.size, .string x.root, .int .i64 x.taken, .string x.troot] := by have h := hF 11 (by decide +kernel) (by decide +kernel); rw [HF.out] at h; exact (hd 11 (by decide +kernel) 14 (by kernel_rfl)).trans h
  obtain ⟨hzk, hzc, hzf⟩ := HXq.out.below hb
  clear  hd h0 he ha hF
  go_simp
  rw [HF.out]
  refine ⟨?_, ?_⟩
  ·refine OnlyL.of_z (lo := w.heap.size) (hi := w.heap.size + 1) ?_ rfl; refine Only.setCell ?_ (by exact Nat.le_refl _) (by exact Nat.lt_succ_self _) _; refine Only.setCell ?_ (by exact Nat.le_refl _) (by exact Nat.lt_succ_self _) _; refine Only.setCell ?_ (by exact Nat.le_refl _) (by exact Nat.lt_succ_self _) _; refine Only.setCell ?_ (by exact Nat.le_refl _) (by exact Nat.lt_succ_self _) _; refine Only.setCell ?_ (by exact Nat.le_refl _) (by exact Nat.lt_succ_self _) _; exact Only.refl _ _ _
  ·show NewBox _ (w.heap.size) _
   exact ⟨by simpa [World.setCell] using hzk, fun o => by rcases o with _ | _ | _ | _ | _ | o <;> go_simp, fun o => by go_simp⟩
 intro gh w2 hB hE hA hF
 replace hB : Only (w.heap.size) (w.heap.size + 1) w1 w2 := hB.only
 have f0 : (gh 0).v = .pointer (some ⟨p, 0, none⟩) := by have h := hF 0 (by decide +kernel) (by decide +kernel); rw [HF.out] at h; exact h
 have f1 : (gh 1).v = .pointer (some ⟨p, 0, none⟩) := by have h := hF 1 (by decide +kernel) (by decide +kernel); rw [HF.out] at h; exact h
 have f2 : (gh 2).v = .pointer (some ⟨p, 3, none⟩) := by have h := hF 2 (by decide +kernel) (by decide +kernel); rw [HF.out] at h; exact h
 have f3 : (gh 3).v = .slice (some ⟨b, off, none⟩) nh ch := by have h := hF 3 (by decide +kernel) (by decide +kernel); rw [HF.out] at h; exact h
 have f4 : (gh 4).v = .pointer (some ⟨p, 0, none⟩) := by have h := hF 4 (by decide +kernel) (by decide +kernel); rw [HF.out] at h; exact h
 have f5 : (gh 5).v = .pointer (some ⟨p, 0, none⟩) := by have h := hF 5 (by decide +kernel) (by decide +kernel); rw [HF.out] at h; exact h
 have f6 : (gh 6).v = .pointer (some ⟨p, 3, none⟩) := by have h := hF 6 (by decide +kernel) (by decide +kernel); rw [HF.out] at h; exact h
 have f7 : (gh 7).v = .slice (some ⟨b, off, none⟩) nh ch := by have h := hF 7 (by decide +kernel) (by decide +kernel); rw [HF.out] at h; exact h
 have f8 : (gh 8).v = .int .i64 nh := by have h := hF 8 (by decide +kernel) (by decide +kernel); rw [HF.out] at h; exact h
 have f9 : (gh 9).v = .int .i64 q := by have h := hF 9 (by decide +kernel) (by decide +kernel); rw [HF.out] at h; exact h
 have f10 : (gh 10).v = .pointer (some ⟨b, off + q * 5, none⟩) := by have h := hF 10 (by decide +kernel) (by decide +kernel); rw [HF.out] at h; exact h
 have f11 : (gh 11).v = .agg #[.int .i64 x.num, .int .i64 x.size, .string x.root, .int .i64 x.taken, .string x.troot] := by have h := hF 11 (by decide +kernel) (by decide +kernel); rw [HF.out] at h; exact h
 have f12 : NewBox w2 (w.heap.size) [.int .i64 x.num, .int .i64 x.size, .string x.root, .int .i64 x.taken, .string x.troot] := by have h := hF 12 (by decide +kernel) (by decide +kernel); rw [HF.out] at h; exact h
 have hv0 := f0
 have hv1 := f1
 have hv2 := f2
 have hv3 := f3
 have hv4 := f4
 have hv5 := f5
 have hv6 := f6
 have hv7 := f7
 have hv8 := f8
 have hv9 := f9
 have hv10 := f10
 have hv11 := f11
 have hx12 := f12
 clear hE hA hF
 simp only [putDs, Nat.reduceAdd, hv0, hv1, hv2, hv3, hv4, hv5, hv6, hv7, hv8, hv9, hv10, hv11]
 clear hv0 hv1 hv2 hv3 hv4 hv5 hv6 hv7 hv8 hv9 hv10 hv11
 clear HF
 have hb := hB
 clear hB
 have hzw2 : w1.heap.size ≤ w2.heap.size := hb.size
 have hzzw2 : w.heap.size ≤ w2.heap.size := by omega
 replace HB := Lib.hid (below_only HB.out hb (by omega) HB.out.size)
 clear hxq hfq hkq HXq
 clear hb
 have HXq : Hid (NewBox w2 (w.heap.size) [.int .i64 x.num, .int .i64 x.size, .string x.root, .int .i64 x.taken, .string x.troot]) := hx12
 have hxq := HXq.out.2.1
 have hfq := HXq.out.2.2
 have hkq := HXq.out.1
 clear hx12
 go_wp2
 refine bodyPost_ret (v := .agg #[.int .i64 x.num, .int .i64 x.size, .string x.root, .int .i64 x.taken, .string x.troot]) (by simp [results, Tryz.results102, go_sem, hxq]) rfl ?_
 exact ⟨rfl, HB.out⟩
set_option maxRecDepth 100000 in
set_option maxHeartbeats 4000000 in
theorem l12Last_c (width z1 z2 : Int) (E R H A1 A2 : Option Addr) (ne nr nh ce cr ch c1 c2 lo hi m1 m2 : Nat) (hs : List Hd) (h : Hd) (w : World) (hr : Rd w lo hi H (hds hs)) (hn : hs.length = nh) (hpos : 0 < nh) (hl : nh ≤ 1048576) :
  Calls Tryz.prog 68 #[.agg #[.int .i64 width, .slice E ne ce, .slice R nr cr, .slice H nh ch, .int .i64 z1, .slice A1 m1 c1, .int .i64 z2, .slice A2 m2 c2, .int .i64 h.num, .int .i64 h.size, .string h.root, .int .i64 h.taken, .string h.troot]] w fun e w' => e = .returned (.agg #[.int .i64 (lastHd hs).num, .int .i64 (lastHd hs).size, .string (lastHd hs).root, .int .i64 (lastHd hs).taken, .string (lastHd hs).troot]) ∧ Below w.heap.size w w' := by
 obtain ⟨q, hq⟩ : ∃ q, nh = q + 1 := ⟨nh - 1, by omega⟩
 obtain ⟨b, off, x, rfl, hb, hx, hd⟩ := hd_cells hr (k := q) (by omega)
 have hxl : lastHd hs = x := by
  have h := lastHd_get (hs := hs) (by omega)
  rw [hn, hq, Nat.add_sub_cancel, hx] at h
  exact (Option.some.inj h).symm
 rw [hxl]
 have d0 := hd.1
 have d1 := hd.2.1
 have d2 := hd.2.2.1
 have d3 := hd.2.2.2.1
 have d4 := hd.2.2.2.2
 have E1 : IntKind.i64.wrap ((nh : Int) - 1) = q := by rw [IntKind.wrap_i64]; omega
 have E2 : (nh : Int) - 1 = q := by omega
 have E3 : (q : Int) < nh := by omega
 have E4 : IntKind.i64.wrap (q : Int) = q := by rw [IntKind.wrap_i64]; omega
 clear hx hd hr hxl hn hpos hq
 have HB : Hid (Below w.heap.size w w) := Below.refl _ _
 go_enter Tryz.func68, Tryz.ntmps68
 go_wp2
 refine bodyPost_named (fun w1 hw => ?_)
 have hz1 : w.heap.size + 2 ≤ w1.heap.size := by rw [hw]; first | omega | (simp [World.setCell]; done) | (simp [World.setCell]; omega)
 have hzz1 : w.heap.size ≤ w1.heap.size := by omega
 have hbn : Below w.heap.size w w1 := by rw [hw]; exact (by ((repeat (first | ((with_reducible refine Below.alloc ?_ ?_ _); rotate_left 1; (focus (first | omega | (simp; done) | (simp; omega)))) | (with_reducible refine Below.drew ?_) | ((with_reducible refine Below.setCell ?_ ?_ _); rotate_left 1; (focus (first | omega | (simp; done) | (simp; omega)))))); exact Below.refl _ _))
 replace HB := Lib.hid (below_then HB.out hbn HB.out.size)
 clear hbn
 have HXq0 : Hid (NewBox w1 (w.heap.size) [.int .i64 width, .slice E ne ce, .slice R nr cr, .slice (some ⟨b, off, none⟩) nh ch, .int .i64 z1, .slice A1 m1 c1, .int .i64 z2, .slice A2 m2 c2, .int .i64 h.num, .int .i64 h.size, .string h.root, .int .i64 h.taken, .string h.troot]) := by rw [Hid, hw]; exact ⟨by first | omega | (simp [World.setCell]; done) | (simp [World.setCell]; omega), fun o => by rcases o with _ | _ | _ | _ | _ | _ | _ | _ | _ | _ | _ | _ | _ | o <;> go_simp, fun o => by go_simp⟩
 have hxq0 := HXq0.out.2.1
 have hfq0 := HXq0.out.2.2
 have hkq0 := HXq0.out.1
 have HXq : Hid (NewBox w1 (w.heap.size + 1) [.int .i64 x.num, .int .i64 x.size, .string x.root, .int .i64 x.taken, .string x.troot]) := by rw [Hid, hw]; exact ⟨by first | omega | (simp [World.setCell]; done) | (simp [World.setCell]; omega), fun o => by rcases o with _ | _ | _ | _ | _ | o <;> go_simp, fun o => by go_simp⟩
 have hxq := HXq.out.2.1
 have hfq := HXq.out.2.2
 have hkq := HXq.out.1
 clear hw
 refine bodyPost_ret (v := .agg #[.int .i64 x.num, .int .i64 x.size, .string x.root, .int .i64 x.taken, .string x.troot]) (by simp [results, Tryz.results68, go_sem, hxq]) rfl ?_
 exact ⟨rfl, HB.out⟩
set_option maxRecDepth 100000 in
set_option maxHeartbeats 4000000 in
theorem l12SameRange_c (z1 z2 : Int) (A1 A2 : Option Addr) (c1 c2 lo1 hi1 lo2 hi2 n1 n2 : Nat) (l1 l2 : List ByteArray) (w : World) (hr1 : Rd w lo1 hi1 A1 (strs l1)) (hr2 : Rd w lo2 hi2 A2 (strs l2)) (hn1 : l1.length = n1) (hn2 : l2.length = n2) (h1 : n1 ≤ 1048576) (h2 : n2 ≤ 1048576) :
  Calls Tryz.prog 72 #[.agg #[.int .i64 z1, .slice A1 n1 c1], .agg #[.int .i64 z2, .slice A2 n2 c2]] w fun e w' => e = .returned (.bool (sameR z1 l1 z2 l2)) ∧ Below w.heap.size w w' := by
 have HN1 := Lib.hid hn1
 have HN2 := Lib.hid hn2
 have HR1 := Lib.hid hr1
 have HR2 := Lib.hid hr2
 have HDEF : Hid (sameR z1 l1 z2 l2 = (decide (z1 = z2) && decide (l1 = l2))) := Lib.hid rfl
 clear hn1 hn2 hr1 hr2
 generalize sameR z1 l1 z2 l2 = sr at *
 have HB : Hid (Below w.heap.size w w) := Below.refl _ _
 go_enter Tryz.func72, Tryz.ntmps72
 rcases hz : (z1 == z2) with _ | _
 ·have hz2 : Hid (decide (z1 = z2) = false) := Lib.hid (decide_eq_false (by simpa using hz))
  have hzn := bne_of_beq hz
  go_wp2
  refine bodyPost_named (fun w7 hw => ?_)
  have hb7 : Hid (Below w.heap.size w w7) := by rw [Hid, hw]; exact (by ((repeat (first | ((with_reducible refine Below.alloc ?_ ?_ _); rotate_left 1; (focus (first | omega | (simp; done) | (simp; omega)))) | (with_reducible refine Below.drew ?_) | ((with_reducible refine Below.setCell ?_ ?_ _); rotate_left 1; (focus (first | omega | (simp; done) | (simp; omega)))))); exact HB.out))
  clear hw
  go_ret
  exact ⟨ret_bool (by rw [HDEF.out, hz2.out]; rfl), hb7.out⟩
 ·have hz2 : Hid (decide (z1 = z2) = true) := Lib.hid (decide_eq_true (by simpa using hz))
  have hzn := bne_of_beq hz
  by_cases hnn : n1 = n2
  ·subst hnn
   go_wp2
   go_loopw [5] (fun i wr => ∃ (k : Nat), k ≤ n1 ∧ i = .int .i64 k ∧ l1.take k = l2.take k ∧ NewBox wr w.heap.size [.int .i64 z1, .slice A1 n1 c1] ∧ NewBox wr (w.heap.size + 1) [.int .i64 z2, .slice A2 n1 c2] ∧ Below w.heap.size w wr) (fun i _ => n1 - (intOf i).toNat)
   case atStart => exact ⟨0, Nat.zero_le _, rfl, rfl, (NewBox.new w #[.int .i64 z1, .slice A1 n1 c1] _).alloc _, by have := NewBox.new (w.alloc (.cells #[.int .i64 z1, .slice A1 n1 c1] 47)) #[.int .i64 z2, .slice A2 n1 c2] 47; simpa using this, ((Below.refl _ _).alloc (Nat.le_refl _) _).alloc (by first | omega | (simp; done) | (simp; omega)) _⟩
   case round =>
    obtain ⟨k, hk, rfl, hst, hx1, hx2, hb0⟩ := hrel
    have HST := Lib.hid hst
    have HB0 := Lib.hid hb0
    have HX1 := Lib.hid hx1
    have HX2 := Lib.hid hx2
    have a0 : wr.cell? ⟨w.heap.size, 0, none⟩ = some (.int .i64 z1) := hx1.cell (o := 0) rfl
    have a1 : wr.cell? ⟨w.heap.size, 1, none⟩ = some (.slice A1 n1 c1) := hx1.cell (o := 1) rfl
    have b0 : wr.cell? ⟨w.heap.size + 1, 0, none⟩ = some (.int .i64 z2) := hx2.cell (o := 0) rfl
    have b1 : wr.cell? ⟨w.heap.size + 1, 1, none⟩ = some (.slice A2 n1 c2) := hx2.cell (o := 1) rfl
    clear hst hx1 hx2 hb0
    by_cases hlt : k < n1
    ·obtain ⟨b, off, s, rfl, hb, hks, hc⟩ := (HR1.out.below HB0.out).str (k := k) (by rw [HN1.out]; exact hlt)
     obtain ⟨b2, off2, t, rfl, hb2, hks2, hc2⟩ := (HR2.out.below HB0.out).str (k := k) (by rw [HN2.out]; exact hlt)
     have hI : (k : Int) < n1 := by omega
     rcases hq : (s.toList == t.toList) with _ | _
     ·have HNE := Lib.hid (lists_ne hks hks2 hq)
      have hne := bne_of_beq hq
      clear hks hks2
      go_wp2_with fail
      go_quiet (fail)
      generalize hw5 : wr.drewN _ = w5
      have HB5 : Hid (Below w.heap.size w w5) := by rw [Hid, ← hw5]; exact below_then HB0.out (below_drewN _ _) HB0.out.size
      clear hw5 hc hc2 a0 a1 b0 b1
      go_wp2
      go_ret
      exact ⟨ret_bool (by rw [HDEF.out, hz2.out, HNE.out]; rfl), HB5.out⟩
     ·have HT := Lib.hid (takes_eq HST.out hks hks2 hq)
      have hne := bne_of_beq hq
      clear hks hks2
      go_wp2_with fail
      go_quiet (fail)
      generalize hw5 : wr.drewN _ = w5
      have HX1 : Hid (NewBox w5 w.heap.size [.int .i64 z1, .slice (some ⟨b, off, none⟩) n1 c1]) := by rw [Hid, ← hw5]; exact HX1.out.drewN _
      have HX2 : Hid (NewBox w5 (w.heap.size + 1) [.int .i64 z2, .slice (some ⟨b2, off2, none⟩) n1 c2]) := by rw [Hid, ← hw5]; exact HX2.out.drewN _
      have HB5 : Hid (Below w.heap.size w w5) := by rw [Hid, ← hw5]; exact below_then HB0.out (below_drewN _ _) HB0.out.size
      clear hw5 hc hc2 a0 a1 b0 b1
      go_wp2
      go_roundw
      case rel => exact ⟨k + 1, by omega, by go_num, HT.out, HX1.out, HX2.out, HB5.out⟩
      case measure => simp [intOf]; omega
    ·obtain rfl : k = n1 := by omega
     have he : Hid (decide (l1 = l2) = true) := Lib.hid (decide_eq_true (by
      have h := HST.out
      rwa [List.take_of_length_le (by rw [HN1.out]; exact Nat.le_refl _), List.take_of_length_le (by rw [HN2.out]; exact Nat.le_refl _)] at h))
     go_wp2
     go_ret
     exact ⟨ret_bool (by rw [HDEF.out, hz2.out, he.out]; rfl), HB0.out⟩
  ·have he := Lib.hid (lens_ne (l1 := l1) (l2 := l2) (by rw [HN1.out, HN2.out]; exact hnn))
   have hbq : ((n1 : Int) != (n2 : Int)) = true := bne_iff_ne.2 (by omega)
   go_wp2
   refine bodyPost_named (fun w7 hw => ?_)
   have hb7 : Hid (Below w.heap.size w w7) := by rw [Hid, hw]; exact (by ((repeat (first | ((with_reducible refine Below.alloc ?_ ?_ _); rotate_left 1; (focus (first | omega | (simp; done) | (simp; omega)))) | (with_reducible refine Below.drew ?_) | ((with_reducible refine Below.setCell ?_ ?_ _); rotate_left 1; (focus (first | omega | (simp; done) | (simp; omega)))))); exact HB.out))
   clear hw
   go_ret
   exact ⟨ret_bool (by rw [HDEF.out, hz2.out, he.out]; rfl), hb7.out⟩
end Go.Proofs.YtmmepogjocfefaaGreat

