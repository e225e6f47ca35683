/- Right brokers: the model and the plain law. m[k]++ at a map of the call's own, whose key is a struct: entry, look-up and store in any order. Receipts and heads as keys; '==' on them. Receipts that are right, none twice: receiptsOk of the program (with its map), l12ReceiptsOk of the reference; their hashes. Hashes of receipts. Alike ranges, alike seals; the last head. The last head of a broker. Sealing at once and in two parts: the plain law. NextOf, LatestOf, LeafOf. AddEntry. What a deed makes of a right broker: the plain law. A right broker in memory, as a kind of the walk. What the laws' helpers do to a Head and to a slice of them. Written by gen_struct.py. append to rows of receipts and of heads. A row of strings of the call's own between two blocks, in the words of the walk. Rows of the call's own, of any type, between two blocks: a kind of the walk. A copy of a broker, by the reference. SealMore of the program. SealNew, BrokerNew. What right heads have sealed: sealsOf. The parts of a broker: partsFit, BrokerOk of the program. BrokerOk of the program. Hashes of the first entries and receipts of a broker. Frames: many texts in one. DiskOf: the files of a broker; texts, disk. DiskOf: the files of a broker, the reference. -/
import Derived.Test.YtoccjgcokffkbaaTp2
import Derived.DeepKeys4
import Derived.WideKeyEntry
import Derived.Test.YtoccjgcokffkbaaTp1
import Derived.StillTailTactics
import Derived.Deep.RegionLaw
import Derived.Deep.AppendLies
namespace Go.Proofs.Ytoccjgcokffkbaa
set_option linter.unusedVariables false
set_option linter.unusedSimpArgs false
theorem Rcp.eq_of {a b : Rcp} (h1 : a.reader = b.reader) (h2 : a.topic = b.topic) (h3 : a.index = b.index) : a = b := by cases a; cases b; simp only at h1 h2 h3; rw [h1, h2, h3]
instance rcpDec : DecidableEq Rcp := fun a b =>
 if h : a.reader = b.reader ∧ a.topic = b.topic ∧ a.index = b.index then isTrue (Rcp.eq_of h.1 h.2.1 h.2.2) else isFalse (fun e => h (by rw [e]; exact ⟨rfl, rfl, rfl⟩))
theorem Hd.eq_of {a b : Hd} (h1 : a.num = b.num) (h2 : a.size = b.size) (h3 : a.root = b.root) (h4 : a.taken = b.taken) (h5 : a.troot = b.troot) : a = b := by cases a; cases b; simp only at h1 h2 h3 h4 h5; rw [h1, h2, h3, h4, h5]
instance hdDec : DecidableEq Hd := fun a b =>
 if h : a.num = b.num ∧ a.size = b.size ∧ a.root = b.root ∧ a.taken = b.taken ∧ a.troot = b.troot then isTrue (Hd.eq_of h.1 h.2.1 h.2.2.1 h.2.2.2.1 h.2.2.2.2) else isFalse (fun e => h (by rw [e]; exact ⟨rfl, rfl, rfl, rfl, rfl⟩))
/-! receipts: each right, none twice -/
def rcpAt (l : List Rcp) (k : Nat) : Bool := match l[k]? with
 | some r => rcpOk r && decide (r ∉ l.take k)
 | none => true
def rcpsTo (l : List Rcp) (k : Nat) : Bool := (List.range k).all (rcpAt l)
def rcpsOk (l : List Rcp) : Bool := decide (l.length ≤ 512) && rcpsTo l l.length
theorem rcpsTo_succ (l : List Rcp) (k : Nat) : rcpsTo l (k + 1) = (rcpsTo l k && rcpAt l k) := by
 simp [rcpsTo, List.range_succ]
theorem rcpAt_eq {l : List Rcp} {k : Nat} {r : Rcp} (h : l[k]? = some r) : rcpAt l k = (rcpOk r && decide (r ∉ l.take k)) := by rw [rcpAt, h]
theorem rcpsOk_len {l : List Rcp} (h : rcpsOk l = true) : l.length ≤ 512 := by rw [rcpsOk, Bool.and_eq_true] at h; simpa using h.1
theorem rcpsOk_at {l : List Rcp} (h : rcpsOk l = true) {k : Nat} {r : Rcp} (hr : l[k]? = some r) : rcpOk r = true ∧ r ∉ l.take k := by
 rw [rcpsOk, Bool.and_eq_true, rcpsTo, List.all_eq_true] at h
 have := h.2 k (List.mem_range.2 (List.getElem?_eq_some_iff.1 hr).1)
 rw [rcpAt_eq hr, Bool.and_eq_true] at this
 exact ⟨this.1, of_decide_eq_true this.2⟩
theorem rcpsOk_mem {l : List Rcp} (h : rcpsOk l = true) : ∀ r ∈ l, rcpOk r = true := fun r hr => by
 obtain ⟨k, hk⟩ := List.mem_iff_getElem?.1 hr
 exact (rcpsOk_at h hk).1
theorem logOk_mem {l : List Ent} (h : logOk l = true) : ∀ e ∈ l, entryOk e = true := fun e he => by
 obtain ⟨k, hk⟩ := List.mem_iff_getElem?.1 he
 rw [logOk, Bool.and_eq_true, rightTo, List.all_eq_true] at h
 have := h.2 k (List.mem_range.2 (List.getElem?_eq_some_iff.1 hk).1)
 rw [rightAt_eq hk, Bool.and_eq_true] at this
 exact this.1
/-! hashes of leaves -/
theorem digM_w {width tag : Int} {t : ByteArray} (hw : inR width 1 32 = true) (h : digOk width tag t = true) : ((digM width tag t).size : Int) = width := by
 have := digM_size h
 have := inR_true.1 hw
 omega
theorem leafHash_size {width : Int} {e : Ent} (hw : inR width 1 32 = true) (h : entryOk e = true) : ((leafHashM width e).size : Int) = width := by
 rw [leafHashM, if_pos h]
 refine digM_w hw ?_
 have := leafTextM_size e
 rw [digOk, hw, Bool.true_and, Bool.and_eq_true]
 exact ⟨by decide, decide_eq_true (by omega)⟩
theorem rcpHash_size {width : Int} {e : Rcp} (hw : inR width 1 32 = true) (h : rcpOk e = true) : ((rcpHashM width e).size : Int) = width := by
 rw [rcpHashM, if_pos h]
 refine digM_w hw ?_
 have := rcpTextM_size e
 rw [digOk, hw, Bool.true_and, Bool.and_eq_true]
 exact ⟨by decide, decide_eq_true (by omega)⟩
def leavesM (width : Int) (l : List Ent) : List ByteArray := l.map (leafHashM width)
def takenM (width : Int) (l : List Rcp) : List ByteArray := l.map (rcpHashM width)
theorem leavesM_are {width : Int} {l : List Ent} (hw : inR width 1 32 = true) (h : logOk l = true) : areH width (leavesM width l) = true := areH_of fun s hs => by
 obtain ⟨e, he, rfl⟩ := List.mem_map.1 hs
 exact leafHash_size hw (logOk_mem h e he)
theorem takenM_are {width : Int} {l : List Rcp} (hw : inR width 1 32 = true) (h : rcpsOk l = true) : areH width (takenM width l) = true := areH_of fun s hs => by
 obtain ⟨e, he, rfl⟩ := List.mem_map.1 hs
 exact rcpHash_size hw (rcpsOk_mem h e he)
theorem leavesM_len (width : Int) (l : List Ent) : (leavesM width l).length = l.length := List.length_map _
theorem takenM_len (width : Int) (l : List Rcp) : (takenM width l).length = l.length := List.length_map _
/-! a range that grows in two parts -/
theorem growUp_more {width : Int} {L M : List ByteArray} {n : Nat} : ∀ k : Nat, (∀ i, i < k → M.getD i ByteArray.empty = L.getD (n + i) ByteArray.empty) → growUp width n (growUp width 0 [] L n) M k = growUp width 0 [] L (n + k)
 | 0, _ => rfl
 | k + 1, h => by
   rw [growUp, growUp_more k (fun i hi => h i (by omega)), h k (by omega), show n + (k + 1) = (n + k) + 1 by omega, growUp, Nat.zero_add]
theorem growUp_part {width : Int} {L : List ByteArray} {n m : Nat} (h : n ≤ m) (hm : m ≤ L.length) : growUp width n (growUp width 0 [] L n) ((L.drop n).take (m - n)) (m - n) = growUp width 0 [] L m := by
 rw [growUp_more (L := L) (m - n) (fun i hi => ?_), show n + (m - n) = m by omega]
 rw [List.getD_eq_getElem?_getD, List.getD_eq_getElem?_getD, List.getElem?_take_of_lt hi, List.getElem?_drop]
/-! heads -/
theorem headsOk_at {width : Int} {l : List Hd} (h : headsOk width l = true) {k : Nat} {x : Hd} (hx : l[k]? = some x) : x.num = (k : Int) ∧ headOk width x = true ∧ ∀ p, 0 < k → l[k - 1]? = some p → p.size ≤ x.size ∧ p.taken ≤ x.taken ∧ followsM width p x = true := by
 rw [headsOk, Bool.and_eq_true] at h
 have hk := (List.getElem?_eq_some_iff.1 hx).1
 have h1 := headsUp_le (n := l.length) (k := k + 1) (by omega) h.2
 rw [headsUp, Bool.and_eq_true] at h1
 rcases Nat.eq_zero_or_pos k with h0 | h0
 ·subst h0
  have := h1.2
  rw [headAt_0 hx, Bool.and_eq_true] at this
  exact ⟨by simpa using this.1, this.2, fun p hp => by omega⟩
 ·obtain ⟨p, hp⟩ : ∃ p, l[k - 1]? = some p := ⟨_, List.getElem?_eq_getElem (by omega)⟩
  have h2 := h1.2
  rw [headAt_s hx hp (by omega), Bool.and_eq_true, Bool.and_eq_true] at h2
  refine ⟨by simpa using h2.1.1, h2.1.2, fun p' _ hp' => ?_⟩
  obtain rfl : p = p' := Option.some.inj (hp.symm.trans hp')
  have h3 := h2.2
  refine ⟨?_, ?_, h3⟩ <;>
  ·simp only [followsM, aheadM, Bool.and_eq_true, Bool.not_eq_true', Bool.or_eq_false_iff, decide_eq_false_iff_not] at h3
   omega
def headZero (width : Int) : Hd := ⟨0, 0, emptyT width, 0, emptyT width⟩
/-- a head's sizes and roots are those of the hashes -/
def rootsAt (width : Int) (L T : List ByteArray) (h : Hd) : Bool := decide (h.size ≤ (L.length : Nat)) && (decide (h.taken ≤ (T.length : Nat)) && (decide (h.root = rootFu width 513 (L.take h.size.toNat)) && decide (h.troot = rootFu width 513 (T.take h.taken.toNat))))
def rootsTo (width : Int) (L T : List ByteArray) (hs : List Hd) (k : Nat) : Bool := (hs.take k).all (rootsAt width L T)
theorem rootsTo_succ {width : Int} {L T : List ByteArray} {hs : List Hd} {k : Nat} {x : Hd} (hx : hs[k]? = some x) : rootsTo width L T hs (k + 1) = (rootsTo width L T hs k && rootsAt width L T x) := by
 rw [rootsTo, take_succ hx, List.all_append, rootsTo]; simp
theorem rootsTo_le {width : Int} {L T : List ByteArray} {hs : List Hd} {k n : Nat} (hk : k ≤ n) (h : rootsTo width L T hs n = true) : rootsTo width L T hs k = true := by
 rw [rootsTo, List.all_eq_true] at *
 intro x hx
 refine h x ?_
 rw [show k = min k n by omega, ← List.take_take] at hx
 exact List.mem_of_mem_take hx
def rootsOk (width : Int) (L T : List ByteArray) (hs : List Hd) : Bool := decide (hs[0]? = some (headZero width)) && rootsTo width L T hs hs.length
theorem headZero_roots (width : Int) (L T : List ByteArray) : rootsAt width L T (headZero width) = true := by
 rw [rootsAt, decide_eq_true (show (headZero width).size ≤ _ from Int.natCast_nonneg _), decide_eq_true (show (headZero width).taken ≤ _ from Int.natCast_nonneg _)]
 rw [show (headZero width).size.toNat = 0 from rfl, show (headZero width).taken.toNat = 0 from rfl, List.take_zero, List.take_zero, fu_zero rfl]
 rw [decide_eq_true (show (headZero width).root = emptyT width from rfl), decide_eq_true (show (headZero width).troot = emptyT width from rfl)]; rfl
theorem rootsAt_all {width : Int} {L T : List ByteArray} {h : Hd} (hr : rootsAt width L T h = true) : h.size ≤ (L.length : Nat) ∧ h.taken ≤ (T.length : Nat) ∧ h.root = rootFu width 513 (L.take h.size.toNat) ∧ h.troot = rootFu width 513 (T.take h.taken.toNat) := by
 rw [rootsAt, Bool.and_eq_true, Bool.and_eq_true, Bool.and_eq_true] at hr
 exact ⟨of_decide_eq_true hr.1, of_decide_eq_true hr.2.1, of_decide_eq_true hr.2.2.1, of_decide_eq_true hr.2.2.2⟩
/-- the last head -/
def lastHd (hs : List Hd) : Hd := hs.getD (hs.length - 1) noHd
theorem lastHd_get {hs : List Hd} (h : 0 < hs.length) : hs[hs.length - 1]? = some (lastHd hs) := by
 rw [lastHd, List.getD_eq_getElem?_getD, List.getElem?_eq_getElem (by omega)]; rfl
/-- where a receipt's entry lies -/
def leafIn (es : List Ent) (m : Nat) (r : Rcp) : Bool := decide (0 ≤ firstFrom (isTI r.topic r.index) (es.take m) 0)
theorem firstFrom_ge {p : Ent → Bool} : ∀ (l : List Ent) (j : Nat), firstFrom p l j = -1 ∨ (j : Int) ≤ firstFrom p l j ∧ firstFrom p l j < j + l.length
 | [], _ => .inl rfl
 | e :: r, j => by
   rw [firstFrom]
   split
   ·exact .inr ⟨Int.le_refl _, by simp; omega⟩
   ·rcases firstFrom_ge (p := p) r (j + 1) with h | h
    ·exact .inl h
    ·refine .inr ⟨by omega, ?_⟩
     have := h.2
     simp only [List.length_cons]
     omega
theorem firstFrom_take {p : Ent → Bool} : ∀ (l : List Ent) (m j : Nat), decide (0 ≤ firstFrom p (l.take m) j) = (decide (0 ≤ firstFrom p l j) && decide (firstFrom p l j < j + m))
 | [], m, j => by rw [List.take_nil]; rfl
 | e :: r, 0, j => by
   rw [List.take_zero]
   rcases firstFrom_ge (p := p) (e :: r) j with h | h
   ·rw [h]; rfl
   ·rw [decide_eq_false (p := firstFrom p (e :: r) j < _) (by omega), Bool.and_false]; rfl
 | e :: r, m + 1, j => by
   rw [List.take_succ_cons, firstFrom, firstFrom]
   by_cases hp : p e = true
   ·rw [if_pos hp, if_pos hp, decide_eq_true (by omega), decide_eq_true (by omega)]; rfl
   ·rw [if_neg hp, if_neg hp, firstFrom_take r m (j + 1)]
    congr 1
    exact decide_eq_decide.2 (by omega)
/-- what is sealed is what the last head says -/
def sealIs (width : Int) (L T : List ByteArray) (x : Hd) (z1 : Int) (l1 : List ByteArray) (z2 : Int) (l2 : List ByteArray) (h : Hd) : Bool :=
 (decide (z1 = x.size) && decide (l1 = growUp width 0 [] L x.size.toNat)) && ((decide (z2 = x.taken) && decide (l2 = growUp width 0 [] T x.taken.toNat)) && decide (h = x))
/-- the parts of a right broker, but for what is sealed -/
def brkParts (width : Int) (es : List Ent) (rs : List Rcp) (hs : List Hd) : Bool :=
 inR width 1 32 && (logOk es && (rcpsOk rs && (decide (0 < hs.length) && (headsOk width hs && (rootsOk width (leavesM width es) (takenM width rs) hs && rs.all (leafIn es (lastHd hs).size.toNat))))))
def brkOk (width : Int) (es : List Ent) (rs : List Rcp) (hs : List Hd) (z1 : Int) (l1 : List ByteArray) (z2 : Int) (l2 : List ByteArray) (h : Hd) : Bool :=
 brkParts width es rs hs && sealIs width (leavesM width es) (takenM width rs) (lastHd hs) z1 l1 z2 l2 h
structure BrkParts (width : Int) (es : List Ent) (rs : List Rcp) (hs : List Hd) : Prop where
 wd : inR width 1 32 = true
 log : logOk es = true
 rcps : rcpsOk rs = true
 pos : 0 < hs.length
 heads : headsOk width hs = true
 roots : rootsOk width (leavesM width es) (takenM width rs) hs = true
 ins : ∀ r ∈ rs, leafIn es (lastHd hs).size.toNat r = true
theorem BrkParts.mk_ {width : Int} {es : List Ent} {rs : List Rcp} {hs : List Hd} (h : BrkParts width es rs hs) : brkParts width es rs hs = true := by
 simp only [brkParts, Bool.and_eq_true, List.all_eq_true]
 exact ⟨h.wd, h.log, h.rcps, decide_eq_true h.pos, h.heads, h.roots, h.ins⟩
theorem BrkParts.last {width : Int} {es : List Ent} {rs : List Rcp} {hs : List Hd} (h : BrkParts width es rs hs) :
  0 ≤ (lastHd hs).size ∧ (lastHd hs).size ≤ (es.length : Nat) ∧ (lastHd hs).size ≤ 512 ∧ 0 ≤ (lastHd hs).taken ∧ (lastHd hs).taken ≤ (rs.length : Nat) ∧ (lastHd hs).taken ≤ 512 ∧ headOk width (lastHd hs) = true := by
 have hg := lastHd_get h.pos
 obtain ⟨_, h2, _⟩ := headsOk_at h.heads hg
 have h3 := headOk_all h2
 have h4 := h.roots
 rw [rootsOk, Bool.and_eq_true] at h4
 have h5 := rootsTo_le (k := (hs.length - 1) + 1) (by have := h.pos; omega) h4.2
 rw [rootsTo_succ hg, Bool.and_eq_true] at h5
 have h6 := rootsAt_all h5.2
 rw [leavesM_len, takenM_len] at h6
 exact ⟨by omega, h6.1, by omega, by omega, h6.2.1, by omega, h2⟩
/-- what the last head says is a right seal -/
theorem seal_right {width : Int} {es : List Ent} {rs : List Rcp} {hs : List Hd} {z1 z2 : Int} {l1 l2 : List ByteArray} {h : Hd} (hp : BrkParts width es rs hs) (hq : sealIs width (leavesM width es) (takenM width rs) (lastHd hs) z1 l1 z2 l2 h = true) : sealOk width z1 l1 z2 l2 h = true := by
 obtain ⟨b1, b2, b3, b4, b5, b6, b7⟩ := hp.last
 have hg := lastHd_get hp.pos
 have h4 := hp.roots
 rw [rootsOk, Bool.and_eq_true] at h4
 have h5 := rootsTo_le (k := (hs.length - 1) + 1) (by have := hp.pos; omega) h4.2
 rw [rootsTo_succ hg, Bool.and_eq_true] at h5
 obtain ⟨r1, r2, r3, r4⟩ := rootsAt_all h5.2
 simp only [sealIs, Bool.and_eq_true, decide_eq_true_eq] at hq
 obtain ⟨⟨rfl, rfl⟩, ⟨rfl, rfl⟩, rfl⟩ := hq
 have hw := hp.wd
 have hA := leavesM_are hw hp.log
 have hT := takenM_are hw hp.rcps
 have hr0 : rngOk width 0 [] = true := by
  rw [rngOk, hw, Bool.and_true, Bool.and_eq_true, Bool.and_eq_true]; exact ⟨⟨by decide, by decide⟩, rfl⟩
 have key : ∀ (L : List ByteArray) (z : Int), 0 ≤ z → z ≤ 512 → z ≤ (L.length : Nat) → areH width L = true → rngOk width z (growUp width 0 [] L z.toNat) = true ∧ rngRoot width (growUp width 0 [] L z.toNat) = rootFu width 513 (L.take z.toNat) := by
  intro L z h0 h5 hl ha
  refine ⟨?_, growUp_root (by omega) (by omega)⟩
  have h7 : ([] : List ByteArray).length = popN 0 := by decide
  have h8 := growUp_len (width := width) (leaves := L) h7 (k := z.toNat) (by omega)
  have h9 := growUp_are hw h7 rfl ha (k := z.toNat) (by omega) (by omega)
  rw [rngOk, Bool.and_eq_true, Bool.and_eq_true, Bool.and_eq_true]
  refine ⟨⟨inR_true.2 ⟨by omega, by omega⟩, decide_eq_true ?_⟩, h9, hw⟩
  rw [h8, ← popC_nat (by omega)]; congr 1; omega
 obtain ⟨k1, k2⟩ := key (leavesM width es) _ b1 b3 r1 hA
 obtain ⟨k3, k4⟩ := key (takenM width rs) _ b4 b6 r2 hT
 rw [sealOk, k1, k3, b7, sealFit, rrT, rrT, k1, k3, if_pos rfl, if_pos rfl, k2, k4, ← r3, ← r4]
 simp
end Go.Proofs.Ytoccjgcokffkbaa
namespace Go.Proofs.Ytoccjgcokffkbaa
set_option linter.unusedVariables false
set_option linter.unusedSimpArgs false
open Go.RowKit Go.Maps Go.WideMaps
open Go.ChangeMaps (setBlock)
open Go.WideElems (Fit rd rg)
end Go.Proofs.Ytoccjgcokffkbaa
namespace Go.Proofs.Ytoccjgcokffkbaa
set_option linter.unusedVariables false
set_option linter.unusedSimpArgs false
open Go.RowKit Go.WideMaps
theorem keyLaid : laidOutB Try.prog = true := by kernel_rfl
theorem keySz : ∃ m, Try.prog.types.size = m + 1 := ⟨Try.prog.types.size - 1, by have : 0 < Try.prog.types.size := of_decide_eq_true (by kernel_rfl); omega⟩
theorem cells_str : Try.prog.cellsOf 9 = 1 := by kernel_rfl
theorem cells_int : Try.prog.cellsOf 3 = 1 := by kernel_rfl
theorem i64_wf {x : Int} (h : I64 x) : (Lit.int .i64 x).wf = true := WalkArith.wf_i64 (by have h1 := h.1; have h2 := h.2; omega)
theorem rcpRow : (57 : TypeId) < Try.prog.types.size := of_decide_eq_true (by kernel_rfl)
theorem rcpWide : (match Try.prog.underlying 57 with | some (.array _ _) | some (.struct _) => true | _ => false) = true := by rw [Try.underlying57]
theorem rcpKA : Try.prog.keyTypeAt 2 57 = true := by kernel_rfl
set_option maxRecDepth 100000 in
theorem rcpLaw : KeyLaw Try.prog 57 := deep_law_laid keyLaid (m := 2) (by omega) rcpRow rcpKA rcpWide
theorem rcpKT : Try.prog.keyType 57 = true := by kernel_rfl
theorem rcpCO : Try.prog.cellsOf 57 = 3 := by kernel_rfl
set_option maxRecDepth 100000 in
set_option maxHeartbeats 400000 in
theorem rcpKey (r : Rcp) (hf : r.fits) : ∃ l, keyOf Try.prog 57 (.agg #[.string r.reader, .string r.topic, .int .i64 r.index]) = some l := by
 obtain ⟨h3, h1, h2⟩ := hf
 have hF : (Value.agg #[.string r.reader, .string r.topic, .int .i64 r.index]).formed Try.prog 57 = true := by simp [Value.formed, Try.underlying57, rcpCO]
 obtain ⟨m, hm⟩ := keySz
 have c1 := cells_str
 have c2 := cells_int
 have hw := i64_wf h3
 have hk : ∃ L, Try.prog.keyLits (Try.prog.types.size + 1) 57 (Value.agg #[.string r.reader, .string r.topic, .int .i64 r.index]).cells.toList = some L := by
  rw [hm]
  refine ⟨[.string r.reader.data.toList, .string r.topic.data.toList, .int .i64 r.index], ?_⟩
  simp [Program.keyLits, Value.cells, Try.underlying57, Try.underlying9, Try.underlying3, rcpCO, c1, c2, h1, h2, hw]
 obtain ⟨L, hL⟩ := hk
 refine ⟨.string (keyBytes L), ?_⟩
 unfold keyOf
 simp only [Try.underlying57, rcpKT, hF, hL, Bool.and_self, if_true, Option.map_some]
theorem rcpV_inj {a b : Rcp} (h : (.agg #[.string a.reader, .string a.topic, .int .i64 a.index] : Value) = .agg #[.string b.reader, .string b.topic, .int .i64 b.index]) : a = b := by
 simp only [Value.agg.injEq] at h
 have h2 := congrArg Array.toList h
 simp only [List.cons.injEq, Value.string.injEq, Value.int.injEq, true_and, and_true] at h2
 exact Rcp.eq_of h2.1 h2.2.1 h2.2.2
set_option maxRecDepth 100000 in
theorem eqlRcp (a b : Rcp) (ha : a.fits) (hb : b.fits) (W : World) : (binOp .eql 57 (.agg #[.string a.reader, .string a.topic, .int .i64 a.index]) (.agg #[.string b.reader, .string b.topic, .int .i64 b.index])).run Try.prog W = .ok (.bool (decide (a = b))) W := by
 obtain ⟨la, hla⟩ := rcpKey a ha
 obtain ⟨lb, hlb⟩ := rcpKey b hb
 obtain ⟨r, hr, hiff⟩ := run_equal_deep W (m := 2) (by omega) rcpKA rcpWide hla hlb
 have h2 : r = decide (a = b) := by
  by_cases hab : a = b
  ·subst hab
   obtain rfl : la = lb := Option.some.inj (hla.symm.trans hlb)
   rw [decide_eq_true rfl, hiff.2 rfl]
  ·rw [decide_eq_false hab]
   cases r
   ·rfl
   ·exfalso
    have := hiff.1 rfl
    subst this
    exact hab (rcpV_inj (rcpLaw.inj hla hlb))
 simp only [binOp]
 simp [hr, h2]
end Go.Proofs.Ytoccjgcokffkbaa
namespace Go.Proofs.Ytoccjgcokffkbaa
set_option linter.unusedVariables false
set_option linter.unusedSimpArgs false
open Go.RowKit Go.Maps Go.WideMaps
theorem rcp_cells {w : World} {lo hi : Nat} {A : Option Addr} {l : List Rcp} (h : Rd w lo hi A (rcps l)) {k : Nat} (hk : k < l.length) : ∃ b off x, A = some ⟨b, off, none⟩ ∧ b < w.heap.size ∧ l[k]? = some x ∧
  w.cell? ⟨b, off + k * 3, none⟩ = some (.string x.reader) ∧ w.cell? ⟨b, off + k * 3 + 1, none⟩ = some (.string x.topic) ∧ w.cell? ⟨b, off + k * 3 + 2, none⟩ = some (.int .i64 x.index) := by
 obtain ⟨b, off, x, h1, _, _, h4, h5, h6⟩ := Rd.flat (f := Rcp.cells) (m := 3) (fun _ => rfl) (by omega) h hk
 exact ⟨b, off, x, h1, h4, h5, h6 0 _ rfl, h6 1 _ rfl, h6 2 _ rfl⟩
/-- the first place of a receipt -/
def rcpPos (r : Rcp) : List Rcp → Nat → Int
 | [], _ => -1
 | x :: l, j => if x = r then (j : Int) else rcpPos r l (j + 1)
theorem rcpPos_hit {r : Rcp} {l : List Rcp} {k : Nat} (h : l[k]? = some r) : rcpPos r (l.drop k) k = k := by
 rw [List.drop_eq_getElem_cons (List.getElem?_eq_some_iff.1 h).1, (List.getElem?_eq_some_iff.1 h).2, rcpPos, if_pos rfl]
theorem rcpPos_miss {r x : Rcp} {l : List Rcp} {k : Nat} (h : l[k]? = some x) (hx : ¬ x = r) : rcpPos r (l.drop k) k = rcpPos r (l.drop (k + 1)) (k + 1) := by
 rw [List.drop_eq_getElem_cons (List.getElem?_eq_some_iff.1 h).1, (List.getElem?_eq_some_iff.1 h).2, rcpPos, if_neg hx]
theorem rcpPos_end {r : Rcp} {l : List Rcp} : rcpPos r (l.drop l.length) l.length = -1 := by rw [List.drop_length]; rfl
theorem rcpPos_ge {r : Rcp} : ∀ (l : List Rcp) (j : Nat), rcpPos r l j = -1 ∧ r ∉ l ∨ ∃ k, k < l.length ∧ rcpPos r l j = ((j + k : Nat) : Int) ∧ l[k]? = some r ∧ r ∉ l.take k
 | [], j => .inl ⟨rfl, by simp⟩
 | x :: l, j => by
   rw [rcpPos]
   by_cases h : x = r
   ·rw [if_pos h]
    exact .inr ⟨0, by simp, rfl, by rw [h]; rfl, by simp⟩
   ·rw [if_neg h]
    rcases rcpPos_ge l (j + 1) with ⟨h1, h2⟩ | ⟨k, h1, h2, h3, h4⟩
    ·exact .inl ⟨h1, by simp [h2]; exact fun e => h e.symm⟩
    ·exact .inr ⟨k + 1, by simp; omega, by rw [h2]; congr 1; omega, by simpa using h3, by simp [h4]; exact fun e => h e.symm⟩
set_option maxRecDepth 100000 in
set_option maxHeartbeats 4000000 in
theorem l12At_c (A : Option Addr) (c lo hi n : Nat) (l : List Rcp) (r : Rcp) (w : World) (hr : Rd w lo hi A (rcps l)) (hn : l.length = n) (hl : n ≤ 1048576) (hf : ∀ x ∈ l, x.fits) (hrf : r.fits) :
  Calls Try.prog 113 #[.slice A n c, .agg #[.string r.reader, .string r.topic, .int .i64 r.index]] w fun e w' => e = .returned (.int .i64 (rcpPos r l 0)) ∧ Below w.heap.size w w' := by
 have HN := Lib.hid hn
 have HR := Lib.hid hr
 have HF := Lib.hid hf
 clear hn hr hf
 go_enter Try.func113, Try.ntmps113
 go_wp2
 go_loopw [5] (fun i wr => ∃ (k : Nat), k ≤ n ∧ i = .int .i64 k ∧ rcpPos r l 0 = rcpPos r (l.drop k) k ∧ NewBox wr w.heap.size [.string r.reader, .string r.topic, .int .i64 r.index] ∧ Below w.heap.size w wr) (fun i _ => n - (intOf i).toNat)
 case atStart => exact ⟨0, Nat.zero_le _, rfl, rfl, NewBox.new w #[.string r.reader, .string r.topic, .int .i64 r.index] _, (Below.refl _ _).alloc (Nat.le_refl _) _⟩
 case round =>
  obtain ⟨k, hk, rfl, hst, hx, hb0⟩ := hrel
  have HST := Lib.hid hst
  have HB0 := Lib.hid hb0
  have HX := Lib.hid hx
  have hzr := hx.1
  have e0 : wr.cell? ⟨w.heap.size, 0, none⟩ = some (.string r.reader) := hx.cell (o := 0) rfl
  have e1 : wr.cell? ⟨w.heap.size, 1, none⟩ = some (.string r.topic) := hx.cell (o := 1) rfl
  have e2 : wr.cell? ⟨w.heap.size, 2, none⟩ = some (.int .i64 r.index) := hx.cell (o := 2) rfl
  clear hst hx hb0
  by_cases hlt : k < n
  ·obtain ⟨b, off, x, rfl, hb, hks, hc⟩ := rcp_cells (HR.out.below HB0.out) (k := k) (by rw [HN.out]; exact hlt)
   have hc0 := hc.1
   have hc1 := hc.2.1
   have hc2 := hc.2.2
   have HK := Lib.hid hks
   have hI : (k : Int) < n := by omega
   have heq := eqlRcp x r (HF.out x (List.mem_of_getElem? hks)) hrf
   have HM := Lib.hid (fun h => rcpPos_miss (r := r) hks h)
   clear hc hks
   go_wp2_with fail
   go_quiet (fail)
   generalize hw5 : wr.drewN _ = w5
   have HX5 : Hid (NewBox w5 w.heap.size [.string r.reader, .string r.topic, .int .i64 r.index]) := by rw [Hid, ← hw5]; exact HX.out.drewN _
   have HB5 : Hid (Below w.heap.size w w5) := by rw [Hid, ← hw5]; exact below_then HB0.out (below_drewN _ _) HB0.out.size
   clear hw5 heq e0 e1 e2 hc0 hc1 hc2
   rcases hd : decide (x = r) with _ | _
   ·have HH := Lib.hid (HM.out (of_decide_eq_false hd))
    clear hd HM
    go_wp2
    go_roundw
    case rel => exact ⟨k + 1, by omega, by go_num, by rw [HST.out, HH.out], HX5.out, HB5.out⟩
    case measure => simp [intOf]; omega
   ·have HH := Lib.hid (rcpPos_hit (r := r) (by rw [← of_decide_eq_true hd]; exact HK.out))
    clear hd HM
    go_wp2
    go_ret
    exact ⟨ret_int (by rw [HST.out, HH.out]), HB5.out⟩
  ·obtain rfl : k = n := by omega
   clear e0 e1 e2
   go_wp2
   go_ret
   exact ⟨ret_int (by rw [HST.out, ← HN.out, rcpPos_end]), HB0.out⟩
end Go.Proofs.Ytoccjgcokffkbaa
namespace Go.Proofs.Ytoccjgcokffkbaa
set_option linter.unusedVariables false
set_option linter.unusedSimpArgs false
open Go.RowKit
set_option maxRecDepth 100000 in
set_option maxHeartbeats 4000000 in
theorem l12Taken_c (width : Int) (A : Option Addr) (c lo hi n : Nat) (l : List Rcp) (w : World) (hr : Rd w lo hi A (rcps l)) (hn : l.length = n) (hl : n ≤ 1048576) (hf : ∀ x ∈ l, x.fits) :
  Calls Try.prog 107 #[.int .i64 width, .slice A n c] w fun e w' => ∃ A' c', e = .returned (.slice A' n c') ∧ w'.ownsRow w.heap.size 9 1 (.slice A' n c') n (strs (l.map (rcpHashM width))) ∧ Below w.heap.size w w' := by
 have HN := Lib.hid hn
 have HR := Lib.hid hr
 have HF := Lib.hid hf
 obtain ⟨L, hL⟩ : ∃ L, L = l.map (rcpHashM width) := ⟨_, rfl⟩
 have HLL := Lib.hid hL
 rw [← hL]
 have hrow := row_made w 9 0
 have hbl : Below w.heap.size w (w.alloc (.cells #[] 9)) := (Below.refl _ _).alloc (Nat.le_refl _) _
 have HROW := Lib.hid hrow
 have HBL := Lib.hid hbl
 clear hn hr hf hL hrow hbl
 go_enter Try.func107, Try.ntmps107
 go_wp2
 go_loopw [5, 6] (fun v i wx => ∃ (k : Nat) (A0 : Option Addr) (c0 : Nat), k ≤ n ∧ i = .int .i64 k ∧ v = .slice A0 k c0 ∧ wx.ownsRow w.heap.size 9 1 (.slice A0 k c0) k (strs (L.take k)) ∧ Below w.heap.size w wx ) (fun _ i _ => n - (intOf i).toNat)
 case atStart => exact ⟨0, _, 0, Nat.zero_le _, rfl, rfl, HROW.out, HBL.out⟩
 case round =>
  obtain ⟨k, A0, c0, hk, rfl, rfl, how, hbr⟩ := hrel
  have HBR := Lib.hid hbr
  have HOW := Lib.hid how
  clear hbr how
  by_cases hlt : k < n
  ·skip
   obtain ⟨b, off, x, rfl, hb, hx, hc⟩ := rcp_cells (HR.out.below HBR.out) (k := k) (by rw [HN.out]; exact hlt)
   have hc0 := hc.1
   have hc1 := hc.2.1
   have hc2 := hc.2.2
   have HT : Hid (L.take (k + 1) = L.take k ++ [rcpHashM width x]) := Lib.hid (take_succ (by rw [HLL.out, List.getElem?_map, hx]; rfl))
   have HLH := Lib.hid (fun W => specReceiptHash_c width x W (HF.out x (List.mem_of_getElem? hx)))
   have hI : (k : Int) < n := by omega
   clear hc hx
   generalize rcpHashM width x = lh at *
   generalize rcpHashOk width x = lk at *
   go_wp2_with fail
   refine (HLH.out _).mono ?_
   rintro e w1 ⟨rfl, hb1⟩
   have HB1 := Lib.hid (below_then HBR.out hb1 (by first | exact HBR.out.size | (have := HBR.out.size; simp; omega)))
   have HO1 := Lib.hid (row_below HOW.out hb1)
   have hz1 := HB1.out.size
   clear hb1 HOW hc0 hc1 hc2
   go_wp2_with (at_builtin; refine app1Str rfl _ _ rfl w.heap.size _ _ _ rfl (HO1.out.alloc _) w1.heap.size lh rfl (NewBox.new w1 _ _) (by omega) (by first | omega | (simp; done) | (simp; omega)) ?_)
   intro v2 w2 hown2 hg2
   have hon := grown_only (HO1.out.alloc _) hg2
   obtain ⟨A2, c2, rfl, _, _, _⟩ := ownsRow_slice hown2
   have HB2 : Hid (Below w.heap.size w w2) := below_only (HB1.out.alloc HB1.out.size _) hon (Nat.le_refl _) (by simp; omega)
   rw [← strs_app, ← HT.out] at hown2
   have HO2 := Lib.hid hown2
   clear hown2 hg2 hon HO1
   go_wp2
   go_roundw
   case measure => simp [intOf]; omega
   case rel => exact ⟨k + 1, A2, c2, by omega, by go_num, rfl, HO2.out, HB2.out⟩
  ·obtain rfl : k = n := by omega
   have hlt : L.take k = L := List.take_of_length_le (by rw [HLL.out, List.length_map, HN.out]; exact Nat.le_refl _)
   rw [hlt] at HOW
   clear hlt
   go_wp2
   go_ret
   exact ⟨A0, c0, rfl, HOW.out, HBR.out⟩
end Go.Proofs.Ytoccjgcokffkbaa
namespace Go.Proofs.Ytoccjgcokffkbaa
set_option linter.unusedVariables false
set_option linter.unusedSimpArgs false
open Go.RowKit
end Go.Proofs.Ytoccjgcokffkbaa
namespace Go.Proofs.Ytoccjgcokffkbaa
set_option linter.unusedVariables false
set_option linter.unusedSimpArgs false
open Go.RowKit
set_option maxRecDepth 100000 in
set_option maxHeartbeats 4000000 in
theorem l12Last_c (width z1 z2 : Int) (E R H A1 A2 : Option Addr) (ne nr nh ce cr ch c1 c2 lo hi m1 m2 : Nat) (hs : List Hd) (h : Hd) (w : World) (hr : Rd w lo hi H (hds hs)) (hn : hs.length = nh) (hpos : 0 < nh) (hl : nh ≤ 1048576) :
  Calls Try.prog 105 #[.agg #[.int .i64 width, .slice E ne ce, .slice R nr cr, .slice H nh ch, .int .i64 z1, .slice A1 m1 c1, .int .i64 z2, .slice A2 m2 c2, .int .i64 h.num, .int .i64 h.size, .string h.root, .int .i64 h.taken, .string h.troot]] w fun e w' => e = .returned (.agg #[.int .i64 (lastHd hs).num, .int .i64 (lastHd hs).size, .string (lastHd hs).root, .int .i64 (lastHd hs).taken, .string (lastHd hs).troot]) ∧ Below w.heap.size w w' := by
 obtain ⟨q, hq⟩ : ∃ q, nh = q + 1 := ⟨nh - 1, by omega⟩
 obtain ⟨b, off, x, rfl, hb, hx, hd⟩ := hd_cells hr (k := q) (by omega)
 have hxl : lastHd hs = x := by
  have h := lastHd_get (hs := hs) (by omega)
  rw [hn, hq, Nat.add_sub_cancel, hx] at h
  exact (Option.some.inj h).symm
 rw [hxl]
 have d0 := hd.1
 have d1 := hd.2.1
 have d2 := hd.2.2.1
 have d3 := hd.2.2.2.1
 have d4 := hd.2.2.2.2
 have E1 : IntKind.i64.wrap ((nh : Int) - 1) = q := by rw [IntKind.wrap_i64]; omega
 have E2 : (nh : Int) - 1 = q := by omega
 have E3 : (q : Int) < nh := by omega
 have E4 : IntKind.i64.wrap (q : Int) = q := by rw [IntKind.wrap_i64]; omega
 clear hx hd hr hxl hn hpos hq
 have HB : Hid (Below w.heap.size w w) := Below.refl _ _
 go_enter Try.func105, Try.ntmps105
 go_wp2
 refine bodyPost_named (fun w1 hw => ?_)
 have hz1 : w.heap.size + 2 ≤ w1.heap.size := by rw [hw]; first | omega | (simp [World.setCell]; done) | (simp [World.setCell]; omega)
 have hzz1 : w.heap.size ≤ w1.heap.size := by omega
 have hbn : Below w.heap.size w w1 := by rw [hw]; exact (by ((repeat (first | ((with_reducible refine Below.alloc ?_ ?_ _); rotate_left 1; (focus (first | omega | (simp; done) | (simp; omega)))) | (with_reducible refine Below.drew ?_) | ((with_reducible refine Below.setCell ?_ ?_ _); rotate_left 1; (focus (first | omega | (simp; done) | (simp; omega)))))); exact Below.refl _ _))
 replace HB := Lib.hid (below_then HB.out hbn HB.out.size)
 clear hbn
 have HXq0 : Hid (NewBox w1 (w.heap.size) [.int .i64 width, .slice E ne ce, .slice R nr cr, .slice (some ⟨b, off, none⟩) nh ch, .int .i64 z1, .slice A1 m1 c1, .int .i64 z2, .slice A2 m2 c2, .int .i64 h.num, .int .i64 h.size, .string h.root, .int .i64 h.taken, .string h.troot]) := by rw [Hid, hw]; exact ⟨by first | omega | (simp [World.setCell]; done) | (simp [World.setCell]; omega), fun o => by rcases o with _ | _ | _ | _ | _ | _ | _ | _ | _ | _ | _ | _ | _ | o <;> go_simp, fun o => by go_simp⟩
 have hxq0 := HXq0.out.2.1
 have hfq0 := HXq0.out.2.2
 have hkq0 := HXq0.out.1
 have HXq : Hid (NewBox w1 (w.heap.size + 1) [.int .i64 x.num, .int .i64 x.size, .string x.root, .int .i64 x.taken, .string x.troot]) := by rw [Hid, hw]; exact ⟨by first | omega | (simp [World.setCell]; done) | (simp [World.setCell]; omega), fun o => by rcases o with _ | _ | _ | _ | _ | o <;> go_simp, fun o => by go_simp⟩
 have hxq := HXq.out.2.1
 have hfq := HXq.out.2.2
 have hkq := HXq.out.1
 clear hw
 refine bodyPost_ret (v := .agg #[.int .i64 x.num, .int .i64 x.size, .string x.root, .int .i64 x.taken, .string x.troot]) (by simp [results, Try.results105, go_sem, hxq]) rfl ?_
 exact ⟨rfl, HB.out⟩
end Go.Proofs.Ytoccjgcokffkbaa
namespace Go.Proofs.Ytoccjgcokffkbaa
set_option linter.unusedVariables false
set_option linter.unusedSimpArgs false
theorem calls_pop (n : Nat) : ∀ k : Nat, n + k ≤ 512 → callsUp n k + popN (n + k) = k + popN n
 | 0, _ => by rw [callsUp, Nat.add_zero]
 | k + 1, h => by
   have h1 := calls_pop n k (by omega)
   have h2 := (tz_pop (n + k) (by omega)).1
   rw [callsUp, show n + (k + 1) = n + k + 1 by omega]
   omega
theorem popN_le (n : Nat) : popN n ≤ 10 := popUp_le n 10
theorem root_fits {width z : Int} {l : List ByteArray} (h : rngOk width z l = true) : rootOkM width z (rngRoot width l) = true := by
 obtain ⟨h1, h2, h3, h4, h5⟩ := rngOk_all h
 rw [rootOkM, inR_true.2 ⟨h1, h2⟩, decide_eq_true (rngRoot_size h5 h4), Bool.true_and, Bool.true_and]
 by_cases hz : 0 < z
 ·rw [decide_eq_true hz]; rfl
 ·have h6 : l.length = 0 := by rw [h3, show z = 0 by omega]; decide
  rw [rngRoot, if_pos h6, decide_eq_true rfl, Bool.or_true]
theorem smOk_all {width z1 z2 : Int} {l1 l2 L T : List ByteArray} {h : Hd} (hq : smOk width z1 l1 z2 l2 h L T = true) :
  sealOk width z1 l1 z2 l2 h = true ∧ areH width L = true ∧ areH width T = true ∧ (L.length : Int) ≤ 512 - z1 ∧ (T.length : Int) ≤ 512 - z2 ∧ ¬ h.num = 399 := by
 rw [smOk, smFit, Bool.and_eq_true, Bool.and_eq_true, Bool.and_eq_true, Bool.and_eq_true, Bool.and_eq_true] at hq
 obtain ⟨⟨⟨h1, h2⟩, h3⟩, ⟨h4, h5⟩, h6⟩ := hq
 exact ⟨h1, h2, h3, of_decide_eq_true h4, of_decide_eq_true h5, by simpa using h6⟩
theorem smOk_of {width z1 z2 : Int} {l1 l2 L T : List ByteArray} {h : Hd} (h1 : sealOk width z1 l1 z2 l2 h = true) (h2 : areH width L = true) (h3 : areH width T = true) (h4 : (L.length : Int) ≤ 512 - z1) (h5 : (T.length : Int) ≤ 512 - z2) (h6 : ¬ h.num = 399) : smOk width z1 l1 z2 l2 h L T = true := by
 rw [smOk, smFit, h1, h2, h3, decide_eq_true h4, decide_eq_true h5]
 simpa using h6
def nextHd (width z1 : Int) (l1 : List ByteArray) (z2 : Int) (l2 : List ByteArray) (h : Hd) (L T : List ByteArray) : Hd := ⟨h.num + 1, z1 + L.length, rngRoot width (smP width z1 l1 L), z2 + T.length, rngRoot width (smP width z2 l2 T)⟩
theorem seal_next {width z1 z2 : Int} {l1 l2 L T : List ByteArray} {h : Hd} (hq : smOk width z1 l1 z2 l2 h L T = true) :
  sealOk width (z1 + L.length) (smP width z1 l1 L) (z2 + T.length) (smP width z2 l2 T) (nextHd width z1 l1 z2 l2 h L T) = true := by
 obtain ⟨h1, h2, h3, h4, h5, h6⟩ := smOk_all hq
 obtain ⟨r1, r2, n0, n1⟩ := sealOk_all h1
 obtain ⟨g1, _, _⟩ := rng_grow r1 h2 h4
 obtain ⟨g2, _, _⟩ := rng_grow r2 h3 h5
 have hw := (rngOk_all r1).2.2.2.2
 rw [sealOk, g1, g2, headOk, nextHd, hw, inR_true.2 ⟨by show 0 ≤ h.num + 1; omega, by show h.num + 1 ≤ 399; omega⟩, root_fits g1, root_fits g2, sealFit, rrT, rrT, g1, g2, if_pos rfl, if_pos rfl]
 simp
theorem take_are {width : Int} {L : List ByteArray} (h : areH width L = true) (i : Nat) : areH width (L.take i) = true ∧ areH width (L.drop i) = true :=
 ⟨areH_of fun s hs => areH_mem h s (List.mem_of_mem_take hs), areH_of fun s hs => areH_mem h s (List.mem_of_mem_drop hs)⟩
theorem made_le {width z1 z2 : Int} {l1 l2 L T : List ByteArray} {h : Hd} (hq : smOk width z1 l1 z2 l2 h L T = true) :
  callsUp z1.toNat L.length + callsUp z2.toNat T.length + rngMade (smP width z1 l1 L) + rngMade (smP width z2 l2 T) ≤ L.length + T.length + 20 := by
 obtain ⟨h1, h2, h3, h4, h5, h6⟩ := smOk_all hq
 obtain ⟨r1, r2, n0, n1⟩ := sealOk_all h1
 have key : ∀ {z : Int} {l M : List ByteArray}, rngOk width z l = true → (M.length : Int) ≤ 512 - z → callsUp z.toNat M.length + rngMade (smP width z l M) ≤ M.length + 10 := by
  intro z l M hr hm
  obtain ⟨k1, k2, k3, k4, k5⟩ := rngOk_all hr
  have k7 : l.length = popN z.toNat := by rw [k3, ← popC_nat (by omega)]; congr 1; omega
  have k8 := growUp_len (width := width) (leaves := M) k7 (k := M.length) (by omega)
  have k9 := calls_pop z.toNat M.length (by omega)
  have k10 := popN_le z.toNat
  rw [rngMade, smP, k8]
  omega
 have j1 := key r1 h4
 have j2 := key r2 h5
 omega
end Go.Proofs.Ytoccjgcokffkbaa
namespace Go.Proofs.Ytoccjgcokffkbaa
set_option linter.unusedVariables false
set_option linter.unusedSimpArgs false
open Go.RowKit
def nextOfM (l : List Ent) (t : ByteArray) : Int := if logOk l && nameOk t then (cnt l t : Nat) else -1
set_option maxRecDepth 100000 in
set_option maxHeartbeats 400000 in
theorem implNextOf_c (A : Option Addr) (c lo hi n : Nat) (l : List Ent) (t : ByteArray) (w : World) (hr : Rd w lo hi A (ents l)) (hn : l.length = n) (hl : n ≤ 1048576) (hf : ∀ x ∈ l, x.fits) (ht : t.size ≤ 1048576) :
  Calls Try.prog 19 #[.agg #[.slice A n c], .string t] w fun e w' => e = .returned (.int .i64 (nextOfM l t)) ∧ Below w.heap.size w w' := by
 go_enter Try.func19, Try.ntmps19
 go_wp2_with fail
 refine (implNameOk_c t _ (by unfold maxLen; omega)).mono ?_
 rintro e w2 ⟨rfl, rfl⟩
 rcases h2 : nameOk t with _ | _
 ·go_wp2
  go_ret
  exact ⟨ret_int (by rw [nextOfM, h2, Bool.and_false]; rfl), (Below.refl _ _).alloc (Nat.le_refl _) _⟩
 ·have H2 := Lib.hid h2
  clear h2
  go_wp2_with fail
  refine (implLogOk_c A c _ _ n l _ (hr.alloc _) hn hl hf).mono ?_
  rintro e w1 ⟨rfl, hb1⟩
  have hx1 : w1.cell? ⟨w.heap.size, 0, none⟩ = some (.slice A n c) := cell_later hb1 (by go_simp)
  have hq1 : w.heap.size < w1.heap.size := by have := hb1.size; simp at this; omega
  have HB1 : Hid (Below w.heap.size w w1) := below_then ((Below.refl _ _).alloc (Nat.le_refl _) _) hb1 (by first | omega | (simp; done) | (simp; omega))
  clear hb1
  rcases h1 : logOk l with _ | _
  ·go_wp2
   go_ret
   exact ⟨ret_int (by rw [nextOfM, h1]; rfl), HB1.out⟩
  ·have H1 := Lib.hid h1
   clear h1
   go_wp2_with fail
   refine (nextOf_c A c _ _ n l t _ (hr.below HB1.out) hn hl).mono ?_
   rintro e w2 ⟨rfl, hb2⟩
   have HB2 := below_then HB1.out hb2 HB1.out.size
   clear hb2
   go_wp2
   go_ret
   exact ⟨ret_int (by rw [nextOfM, H1.out, H2.out]; rfl), HB2⟩
/-- the last place, of the first k, that has a property; or -1 -/
def lastTo (p : Ent → Bool) (l : List Ent) : Nat → Int
 | 0 => -1
 | k + 1 => if (l[k]?).any p then (k : Int) else lastTo p l k
theorem lastTo_hit {p : Ent → Bool} {l : List Ent} {k : Nat} {e : Ent} (h : l[k]? = some e) (hp : p e = true) : lastTo p l (k + 1) = k := by
 rw [lastTo, h, if_pos (by simpa using hp)]
def isTK (t k : ByteArray) (e : Ent) : Bool := (e.topic.toList == t.toList) && (e.key.toList == k.toList)
def latestOfM (l : List Ent) (t k : ByteArray) : Int := if logOk l then lastTo (isTK t k) l l.length else -1
end Go.Proofs.Ytoccjgcokffkbaa
namespace Go.Proofs.Ytoccjgcokffkbaa
set_option linter.unusedVariables false
set_option linter.unusedSimpArgs false
open Go.RowKit
def newEnt (l : List Ent) (t : ByteArray) (ti : Int) (k b : ByteArray) : Ent := ⟨t, (cnt l t : Nat), ti, k, b⟩
def addCode (l : List Ent) (t : ByteArray) (ti : Int) (k b : ByteArray) : Int := if nameOk t then (if partsOk ti k b then (if decide (512 ≤ l.length) then 4 else 0) else 3) else 2
def addL (l : List Ent) (t : ByteArray) (ti : Int) (k b : ByteArray) : List Ent := if addCode l t ti k b = 0 then l ++ [newEnt l t ti k b] else []
def addLeaf (l : List Ent) (t : ByteArray) (ti : Int) (k b : ByteArray) : Int := if addCode l t ti k b = 0 then (l.length : Nat) else 0
theorem addL_no {l : List Ent} {t : ByteArray} {ti : Int} {k b : ByteArray} {c : Int} (h : addCode l t ti k b = c) (hc : c ≠ 0) : addL l t ti k b = [] ∧ addLeaf l t ti k b = 0 := by
 rw [addL, addLeaf, h, if_neg hc, if_neg hc]; exact ⟨rfl, rfl⟩
theorem addL_yes {l : List Ent} {t : ByteArray} {ti : Int} {k b : ByteArray} (h : addCode l t ti k b = 0) : addL l t ti k b = l ++ [newEnt l t ti k b] ∧ addLeaf l t ti k b = (l.length : Nat) := by
 rw [addL, addLeaf, h, if_pos rfl, if_pos rfl]; exact ⟨rfl, rfl⟩
theorem entryOk_0 {t k b : ByteArray} {ti : Int} (h : nameOk t = true) : entryOk ⟨t, 0, ti, k, b⟩ = partsOk ti k b := by
 rw [entryOk, h]; rfl
theorem ent_fits {t k b : ByteArray} {i ti : Int} (h1 : t.size ≤ 1048576) (hi : I64 i) (hti : I64 ti) (h2 : k.size ≤ 1048576) (h3 : b.size ≤ 1048576) : Ent.fits ⟨t, i, ti, k, b⟩ :=
 ⟨hi, hti, Nat.le_trans h1 (by unfold maxLen; omega), Nat.le_trans h2 (by unfold maxLen; omega), Nat.le_trans h3 (by unfold maxLen; omega)⟩
theorem ents_app (a b : List Ent) : ents (a ++ b) = ents a ++ ents b := by rw [ents, List.flatMap_append]; rfl
set_option maxRecDepth 100000 in
set_option maxHeartbeats 400000 in
theorem l09Add_c (A : Option Addr) (c lo hi n : Nat) (l : List Ent) (t : ByteArray) (ti : Int) (k b : ByteArray) (w : World) (hr : Rd w lo hi A (ents l)) (hn : l.length = n) (hl : n ≤ 512) (hA : A = none → c = 0)
  (ht : t.size ≤ 1048576) (hti : I64 ti) (hk : k.size ≤ 1048576) (hb : b.size ≤ 1048576) :
  Calls Try.prog 115 #[.agg #[.slice A n c], .string t, .int .i64 ti, .string k, .string b] w fun e w' => ∃ (A' : Option Addr) (c' : Nat), e = .returned (.tuple #[.agg #[.slice A' (addL l t ti k b).length c'], .int .i64 (addLeaf l t ti k b), .int .i64 (addCode l t ti k b)]) ∧
   ((A' = none → c' = 0) ∧ (addL l t ti k b).length ≤ c') ∧ Own w' w.heap.size w'.heap.size A' (ents (addL l t ti k b)) ∧ Below w.heap.size w w' := by
 have HN := Lib.hid hn
 have HI := Lib.hid hti
 clear hn hti
 go_enter Try.func115, Try.ntmps115
 have HB : Hid (Below w.heap.size w w) := Below.refl _ _
 have HOA : Hid (Rd w (0) (w.heap.size) (A) (ents l)) := Rd.base hr
 clear hr
 go_wp2_with fail
 refine calls_named (fun w1 hw => ?_)
 have hz1 : w.heap.size + 2 ≤ w1.heap.size := by rw [hw]; first | omega | (simp [World.setCell]; done) | (simp [World.setCell]; omega)
 have hzz1 : w.heap.size ≤ w1.heap.size := by omega
 have hbn : Below w.heap.size w w1 := by rw [hw]; exact (by ((repeat (first | ((with_reducible refine Below.alloc ?_ ?_ _); rotate_left 1; (focus (first | omega | (simp; done) | (simp; omega)))) | (with_reducible refine Below.drew ?_) | ((with_reducible refine Below.setCell ?_ ?_ _); rotate_left 1; (focus (first | omega | (simp; done) | (simp; omega)))))); exact Below.refl _ _))
 replace HB := Lib.hid (below_then HB.out hbn HB.out.size)
 replace HOA := Lib.hid (HOA.out.below hbn)
 clear hbn
 have HXl0 : Hid (NewBox w1 (w.heap.size) [.slice A n c]) := by rw [Hid, hw]; exact ⟨by first | omega | (simp [World.setCell]; done) | (simp [World.setCell]; omega), fun o => by rcases o with _ | o <;> go_simp, fun o => by go_simp⟩
 have hxl0 := HXl0.out.2.1
 have hfl0 := HXl0.out.2.2
 have hkl0 := HXl0.out.1
 have HXr0 : Hid (NewBox w1 (w.heap.size + 1) [.slice none 0 0]) := by rw [Hid, hw]; exact ⟨by first | omega | (simp [World.setCell]; done) | (simp [World.setCell]; omega), fun o => by rcases o with _ | o <;> go_simp, fun o => by go_simp⟩
 have hxr0 := HXr0.out.2.1
 have hfr0 := HXr0.out.2.2
 have hkr0 := HXr0.out.1
 clear hw
 refine (specNameOk_c t _ (by unfold maxLen; omega)).mono ?_
 rintro e w2_ ⟨rfl, rfl⟩
 rcases h1 : nameOk t with _ | _
 ·have hc : Hid (addCode l t ti k b = 2) := by rw [Hid, addCode, h1]; rfl
  clear h1
  go_wp2
  refine bodyPost_ret (v := .tuple #[.agg #[.slice none 0 0], .int .i64 0, .int .i64 2]) (by simp [results, Try.results115, go_sem, World.cell?_setCell_same _ _ _ (HXr0.out.cell (o := 0) rfl)]) rfl ?_
  exact ⟨none, 0, by rw [hc.out, (addL_no hc.out (by decide)).1, (addL_no hc.out (by decide)).2]; rfl, ⟨fun _ => rfl, by rw [(addL_no hc.out (by decide)).1]; exact Nat.zero_le _⟩, by rw [(addL_no hc.out (by decide)).1]; exact Own.nil, (by ((repeat (first | ((with_reducible refine Below.alloc ?_ ?_ _); rotate_left 1; (focus (first | omega | (simp; done) | (simp; omega)))) | (with_reducible refine Below.drew ?_) | ((with_reducible refine Below.setCell ?_ ?_ _); rotate_left 1; (focus (first | omega | (simp; done) | (simp; omega)))))); exact HB.out))⟩
 ·have H1 := Lib.hid h1
  have hE := Lib.hid (entryOk_0 (k := k) (b := b) (ti := ti) h1)
  clear h1
  go_wp2_with fail
  refine calls_named (fun w3 hw => ?_)
  have hz3 : w1.heap.size + 0 ≤ w3.heap.size := by rw [hw]; first | omega | (simp [World.setCell]; done) | (simp [World.setCell]; omega)
  have hzz3 : w.heap.size ≤ w3.heap.size := by omega
  have hbn : Below w1.heap.size w1 w3 := by rw [hw]; exact (by ((repeat (first | ((with_reducible refine Below.alloc ?_ ?_ _); rotate_left 1; (focus (first | omega | (simp; done) | (simp; omega)))) | (with_reducible refine Below.drew ?_) | ((with_reducible refine Below.setCell ?_ ?_ _); rotate_left 1; (focus (first | omega | (simp; done) | (simp; omega)))))); exact Below.refl _ _))
  replace HB := Lib.hid (below_then HB.out hbn HB.out.size)
  replace HOA := Lib.hid (HOA.out.below hbn)
  replace HXl0 := Lib.hid (HXl0.out.below hbn)
  clear hxl0 hfl0 hkl0
  have hxl0 := HXl0.out.2.1
  have hfl0 := HXl0.out.2.2
  have hkl0 := HXl0.out.1
  replace HXr0 := Lib.hid (HXr0.out.below hbn)
  clear hxr0 hfr0 hkr0
  have hxr0 := HXr0.out.2.1
  have hfr0 := HXr0.out.2.2
  have hkr0 := HXr0.out.1
  clear hbn
  clear hw
  refine (specEntryOk_c ⟨t, 0, ti, k, b⟩ _ (ent_fits ht ⟨by decide, by decide⟩ HI.out hk hb)).mono ?_
  rintro e w4 ⟨rfl, hb⟩
  have hzw4 : w3.heap.size ≤ w4.heap.size := hb.size
  have hzzw4 : w.heap.size ≤ w4.heap.size := by omega
  replace HB := Lib.hid (below_then HB.out hb HB.out.size)
  replace HOA := Lib.hid (HOA.out.below hb)
  replace HXl0 := Lib.hid (HXl0.out.below hb)
  clear hxl0 hfl0 hkl0
  have hxl0 := HXl0.out.2.1
  have hfl0 := HXl0.out.2.2
  have hkl0 := HXl0.out.1
  replace HXr0 := Lib.hid (HXr0.out.below hb)
  clear hxr0 hfr0 hkr0
  have hxr0 := HXr0.out.2.1
  have hfr0 := HXr0.out.2.2
  have hkr0 := HXr0.out.1
  clear hb
  rw [hE.out]
  rcases h2 : partsOk ti k b with _ | _
  ·have hc : Hid (addCode l t ti k b = 3) := by rw [Hid, addCode, H1.out, h2]; rfl
   clear h2
   go_wp2
   refine bodyPost_ret (v := .tuple #[.agg #[.slice none 0 0], .int .i64 0, .int .i64 3]) (by simp [results, Try.results115, go_sem, World.cell?_setCell_same _ _ _ (HXr0.out.cell (o := 0) rfl)]) rfl ?_
   exact ⟨none, 0, by rw [hc.out, (addL_no hc.out (by decide)).1, (addL_no hc.out (by decide)).2]; rfl, ⟨fun _ => rfl, by rw [(addL_no hc.out (by decide)).1]; exact Nat.zero_le _⟩, by rw [(addL_no hc.out (by decide)).1]; exact Own.nil, (by ((repeat (first | ((with_reducible refine Below.alloc ?_ ?_ _); rotate_left 1; (focus (first | omega | (simp; done) | (simp; omega)))) | (with_reducible refine Below.drew ?_) | ((with_reducible refine Below.setCell ?_ ?_ _); rotate_left 1; (focus (first | omega | (simp; done) | (simp; omega)))))); exact HB.out))⟩
  ·have H2 := Lib.hid h2
   clear h2
   rcases (show n = 512 ∨ n < 512 by omega) with h3 | h3
   ·have hc : Hid (addCode l t ti k b = 4) := by rw [Hid, addCode, H1.out, H2.out, HN.out, h3]; rfl
    subst h3
    go_wp2
    refine bodyPost_ret (v := .tuple #[.agg #[.slice none 0 0], .int .i64 0, .int .i64 4]) (by simp [results, Try.results115, go_sem, World.cell?_setCell_same _ _ _ (HXr0.out.cell (o := 0) rfl)]) rfl ?_
    exact ⟨none, 0, by rw [hc.out, (addL_no hc.out (by decide)).1, (addL_no hc.out (by decide)).2]; rfl, ⟨fun _ => rfl, by rw [(addL_no hc.out (by decide)).1]; exact Nat.zero_le _⟩, by rw [(addL_no hc.out (by decide)).1]; exact Own.nil, (by ((repeat (first | ((with_reducible refine Below.alloc ?_ ?_ _); rotate_left 1; (focus (first | omega | (simp; done) | (simp; omega)))) | (with_reducible refine Below.drew ?_) | ((with_reducible refine Below.setCell ?_ ?_ _); rotate_left 1; (focus (first | omega | (simp; done) | (simp; omega)))))); exact HB.out))⟩
   ·have hc : Hid (addCode l t ti k b = 0) := by rw [Hid, addCode, H1.out, H2.out, HN.out]; simp; omega
    have hq : ((n : Int) == 512) = false := by rw [beq_eq_false_iff_ne]; omega
    go_wp2_with fail
    refine (l09Count_c A c _ _ n l t _ HOA.out HN.out (by omega)).mono ?_
    rintro e w5_ ⟨rfl, rfl⟩
    go_wp2_with fail
    refine wp_named (fun w6 hw => ?_)
    have hz6 : w4.heap.size + 1 ≤ w6.heap.size := by rw [hw]; first | omega | (simp [World.setCell]; done) | (simp [World.setCell]; omega)
    have hzz6 : w.heap.size ≤ w6.heap.size := by omega
    have hbn : Below w4.heap.size w4 w6 := by rw [hw]; exact (by ((repeat (first | ((with_reducible refine Below.alloc ?_ ?_ _); rotate_left 1; (focus (first | omega | (simp; done) | (simp; omega)))) | (with_reducible refine Below.drew ?_) | ((with_reducible refine Below.setCell ?_ ?_ _); rotate_left 1; (focus (first | omega | (simp; done) | (simp; omega)))))); exact Below.refl _ _))
    replace HB := Lib.hid (below_then HB.out hbn HB.out.size)
    replace HOA := Lib.hid (HOA.out.below hbn)
    replace HXl0 := Lib.hid (HXl0.out.below hbn)
    clear hxl0 hfl0 hkl0
    have hxl0 := HXl0.out.2.1
    have hfl0 := HXl0.out.2.2
    have hkl0 := HXl0.out.1
    replace HXr0 := Lib.hid (HXr0.out.below hbn)
    clear hxr0 hfr0 hkr0
    have hxr0 := HXr0.out.2.1
    have hfr0 := HXr0.out.2.2
    have hkr0 := HXr0.out.1
    clear hbn
    have HXe : Hid (NewBox w6 (w4.heap.size) [.string t, .int .i64 (cnt l t : Nat), .int .i64 ti, .string k, .string b]) := by rw [Hid, hw]; exact ⟨by first | omega | (simp [World.setCell]; done) | (simp [World.setCell]; omega), fun o => by rcases o with _ | _ | _ | _ | _ | o <;> go_simp, fun o => by go_simp⟩
    have hxe := HXe.out.2.1
    have hfe := HXe.out.2.2
    have hke := HXe.out.1
    clear hw
    obtain ⟨F, HF⟩ : ∃ F : Facts, Hid (F = fun iq xq tqs dsq uq => match iq with
     | 0 => xq.v = .slice (some ⟨xq.s, 0, none⟩) 0 0 ∧ RowIn (inG xq []) uq 55 5 (.slice (some ⟨xq.s, 0, none⟩) 0 0) 0 []
     | 1 => xq.v = .pointer (some ⟨(w.heap.size), 0, none⟩)
     | 2 => xq.v = .slice A n c
     | 3 => (match tqs, dsq with | [tq0], [] => ∃ (A3 : Option Addr) (c3 : Nat), xq.v = .slice A3 n c3 ∧ RowIn (inG xq [tq0]) uq 55 5 (.slice A3 n c3) (n) (ents l) | _, _ => False)
     | 4 => xq.v = .agg #[.string t, .int .i64 (cnt l t : Nat), .int .i64 ti, .string k, .string b]
     | 5 => xq.v = .slice (some ⟨xq.s, 0, none⟩) 1 1 ∧ xq.s < xq.e ∧ NewBox uq xq.s (ents [(newEnt l t ti k b)])
     | 6 => (match tqs, dsq with | [tq0, tq1], [] => ∃ (A4 : Option Addr) (c4 : Nat), xq.v = .slice A4 (n + 1) c4 ∧ RowIn (inG xq [tq0, tq1]) uq 55 5 (.slice A4 (n + 1) c4) ((n + 1)) ((ents l ++ ents [newEnt l t ti k b])) | _, _ => False)
     | 7 => (match tqs, dsq with | [], [yq0] => ∃ (A4 : Option Addr) (c4 : Nat), yq0.v = .slice A4 (n + 1) c4 ∧ xq.v = .agg #[.slice A4 (n + 1) c4] | _, _ => False)
     | 8 => xq.v = .pointer (some ⟨(w.heap.size), 0, none⟩)
     | 9 => xq.v = .slice A n c
     | 10 => xq.v = .int .i64 (n : Nat)
     | 11 => (match tqs, dsq with | [], [yq0] => ∃ (A4 : Option Addr) (c4 : Nat), yq0.v = .slice A4 (n + 1) c4 ∧ NewBox uq (w.heap.size + 1) [.slice A4 (n + 1) c4] | _, _ => False)
     | 12 => xq.v = .int .i64 (n : Nat)
     | 13 => xq.v = .int .i64 0
     | _ => False) := ⟨_, rfl⟩
    refine wp_region_facts [[], [], [], [], [], [], [], [6], [], [], [], [6], [], []] [[], [], [], [0], [], [], [3, 0], [], [], [], [], [], [], []] [some 40, some 41, some 42, some 43, some 44, some 45, some 46, some 47, some 48, some 49, some 50, none, some 11, some 12] (some 11) (w.heap.size + 1) (w.heap.size + 1 + 1) (.inr (by omega)) F (by kernel_rfl) (by kernel_rfl) (by kernel_rfl) ?_ ⟨?_, ?_, ?_, ?_, ?_, ?_, ?_, ?_, ?_, ?_, ?_, ?_, ?_, ?_, trivial⟩ ?_
    ·rw [HF.out]; intro iq xq tqs dsq uq u' hi hf hs hW hx hbk
     have kx : ∀ b, xq.s ≤ b → b < xq.e → u'.heap[b]? = uq.heap[b]? := fun b h1 h2 => hbk b (.inr (.inl ⟨h1, h2⟩))
     have kt : ∀ t ∈ tqs, ∀ b, t.s ≤ b → b < t.e → u'.heap[b]? = uq.heap[b]? := fun t ht b h1 h2 => hbk b (.inr (.inr ⟨t, ht, h1, h2⟩))
     match iq with
     | 0 => exact ⟨hf.1, hf.2.keep (fun k hk => hk.elim (fun h => kx k h.1 h.2) (fun ⟨t, ht, _⟩ => by cases ht))⟩
     | 1 => exact hf
     | 2 => exact hf
     | 3 => match tqs, dsq, hf with | [tq0], [], hf => obtain ⟨A3, c3, hv, p0⟩ := hf; exact ⟨A3, c3, hv, p0.keep (fun k hk => hk.elim (fun h => kx k h.1 h.2) (fun ⟨t, ht, h⟩ => kt t ht k h.1 h.2))⟩
     | 4 => exact hf
     | 5 => obtain ⟨h1, h2, hb⟩ := hf; exact ⟨h1, h2, hb.keep hs (kx _ (Nat.le_refl _) h2)⟩
     | 6 => match tqs, dsq, hf with | [tq0, tq1], [], hf => obtain ⟨A4, c4, hv, p0⟩ := hf; exact ⟨A4, c4, hv, p0.keep (fun k hk => hk.elim (fun h => kx k h.1 h.2) (fun ⟨t, ht, h⟩ => kt t ht k h.1 h.2))⟩
     | 7 => exact hf
     | 8 => exact hf
     | 9 => exact hf
     | 10 => exact hf
     | 11 => match tqs, dsq, hf with | [], [yq0], hf => obtain ⟨A4, c4, hvr6, hb⟩ := hf; exact ⟨A4, c4, hvr6, hb.keep hs (hbk _ (.inl ⟨hkr0, .inr (.inr rfl)⟩))⟩
     | 12 => exact hf
     | 13 => exact hf
    ·intro gh ρ u hc hf1 hg1 hd h0 hb he ha hF
     first | (replace hb : Below w6.heap.size w6 u := hb.drew.below (by decide +kernel)) | (replace hb : Only (w.heap.size + 1) (w.heap.size + 1 + 1) w6 u := hb.drew.only)
     have hbz : w6.heap.size ≤ u.heap.size := hb.size
     clear  hd h0 he ha hF
     go_simp
     rw [HF.out]
     exact ⟨OnlyL.of_below ((Below.refl _ _).alloc (Nat.le_refl _) _), rfl, RowIn.made _ _ _ _ (.inl ⟨Nat.le_refl _, by simp⟩)⟩
    ·intro gh ρ u hc hf1 hg1 hd h0 hb he ha hF
     have r5 : ρ (.tmp 5) = .pointer (some ⟨w.heap.size, 0, none⟩) := (h0 5 (by decide +kernel)).trans rfl
     clear  hd h0 he ha hF
     go_simp
     rw [HF.out]
     exact ⟨OnlyL.refl _ _, rfl⟩
    ·intro gh ρ u hc hf1 hg1 hd h0 hb he ha hF
     first | (replace hb : Below w6.heap.size w6 u := hb.drew.below (by decide +kernel)) | (replace hb : Only (w.heap.size + 1) (w.heap.size + 1 + 1) w6 u := hb.drew.only)
     have hbz : w6.heap.size ≤ u.heap.size := hb.size
     have r41 : ρ (.tmp 41) = .pointer (some ⟨(w.heap.size), 0, none⟩) := by have h := hF 1 (by decide +kernel) (by decide +kernel); rw [HF.out] at h; exact (hd 1 (by decide +kernel) 41 (by kernel_rfl)).trans h
     have q_l0 : ∀ o, u.cell? ⟨w.heap.size, o, none⟩ = [.slice A n c][o]? := by first | exact (HXl0.out.below hb).2.1 | exact (HXl0.out.only hb (by omega)).2.1
     have k_l0 : w.heap.size < u.heap.size := by have := HXl0.out.1; omega
     have q_e : ∀ o, u.cell? ⟨w4.heap.size, o, none⟩ = [.string t, .int .i64 (cnt l t : Nat), .int .i64 ti, .string k, .string b][o]? := by first | exact (HXe.out.below hb).2.1 | exact (HXe.out.only hb (by omega)).2.1
     have k_e : w4.heap.size < u.heap.size := by have := HXe.out.1; omega
     clear  hd h0 he ha hF
     go_simp
     rw [HF.out]
     exact ⟨OnlyL.refl _ _, rfl⟩
    ·intro gh ρ u hc hf1 hg1 hd h0 hb he ha hF
     first | (replace hb : Below w6.heap.size w6 u := hb.drew.below (by decide +kernel)) | (replace hb : Only (w.heap.size + 1) (w.heap.size + 1 + 1) w6 u := hb.drew.only)
     have hbz : w6.heap.size ≤ u.heap.size := hb.size
     have f0 : (gh 0).v = .slice (some ⟨(gh 0).s, 0, none⟩) 0 0 ∧ RowIn (inG (gh 0) []) u 55 5 (.slice (some ⟨(gh 0).s, 0, none⟩) 0 0) 0 [] := by have h := hF 0 (by decide +kernel) (by decide +kernel); rw [HF.out] at h; exact h
     obtain ⟨hv0, hrow0⟩ := f0
     have r40 : ρ (.tmp 40) = .slice (some ⟨(gh 0).s, 0, none⟩) 0 0 := (hd 0 (by decide +kernel) 40 (by kernel_rfl)).trans hv0
     have r42 : ρ (.tmp 42) = .slice A n c := by have h := hF 2 (by decide +kernel) (by decide +kernel); rw [HF.out] at h; exact (hd 2 (by decide +kernel) 42 (by kernel_rfl)).trans h
     clear hv0 hd h0 he ha hF
     refine gappEnt _ _ rfl _ (0) ([]) r40 hrow0 A n c _ _ l r42 HN.out (HOA.out.below hb) hA (by omega) ?_
     intro A' c' u' hrow hlt hg
     rw [HF.out]
     have hS : ∀ k, inG (gh 0) [] k → ∃ z ∈ ([0] : List Nat), (gh z).s ≤ k ∧ k < (gh z).e := by
      rintro k (h | ⟨t, ht, h⟩)
      ·exact ⟨0, by decide, h⟩
      ·cases ht
     refine ⟨⟨hg.os, hg.tape, hg.output, hg.size, fun k hk hd' _ => hg.block k hk (fun e => ?_)⟩, A', c', by rw [Nat.zero_add], ?_⟩
     ·obtain ⟨z, hz, h1, h2⟩ := hS k (hrow0.at_ k e.symm); have := hd' (gh z) (List.mem_map.2 ⟨z, hz, rfl⟩); omega
     ·rw [Nat.zero_add, List.nil_append] at hrow; rw [Nat.zero_add] at hlt; exact RowIn.widen hrow (fun k hk => .inr (let ⟨z, hz, h⟩ := hS k hk; ⟨gh z, List.mem_map.2 ⟨z, hz, rfl⟩, h⟩)) (fun e => .inl ⟨Nat.le_refl _, hlt _ e⟩)
    ·intro gh ρ u hc hf1 hg1 hd h0 hb he ha hF
     first | (replace hb : Below w6.heap.size w6 u := hb.drew.below (by decide +kernel)) | (replace hb : Only (w.heap.size + 1) (w.heap.size + 1 + 1) w6 u := hb.drew.only)
     have hbz : w6.heap.size ≤ u.heap.size := hb.size
     have r13 : ρ (.tmp 13) = .pointer (some ⟨w4.heap.size, 0, none⟩) := (h0 13 (by decide +kernel)).trans rfl
     have q_l0 : ∀ o, u.cell? ⟨w.heap.size, o, none⟩ = [.slice A n c][o]? := by first | exact (HXl0.out.below hb).2.1 | exact (HXl0.out.only hb (by omega)).2.1
     have k_l0 : w.heap.size < u.heap.size := by have := HXl0.out.1; omega
     have q_e : ∀ o, u.cell? ⟨w4.heap.size, o, none⟩ = [.string t, .int .i64 (cnt l t : Nat), .int .i64 ti, .string k, .string b][o]? := by first | exact (HXe.out.below hb).2.1 | exact (HXe.out.only hb (by omega)).2.1
     have k_e : w4.heap.size < u.heap.size := by have := HXe.out.1; omega
     clear  hd h0 he ha hF
     go_simp
     rw [HF.out]
     exact ⟨OnlyL.refl _ _, rfl⟩
    ·intro gh ρ u hc hf1 hg1 hd h0 hb he ha hF
     first | (replace hb : Below w6.heap.size w6 u := hb.drew.below (by decide +kernel)) | (replace hb : Only (w.heap.size + 1) (w.heap.size + 1 + 1) w6 u := hb.drew.only)
     have hbz : w6.heap.size ≤ u.heap.size := hb.size
     have r44 : ρ (.tmp 44) = .agg #[.string t, .int .i64 (cnt l t : Nat), .int .i64 ti, .string k, .string b] := by have h := hF 4 (by decide +kernel) (by decide +kernel); rw [HF.out] at h; exact (hd 4 (by decide +kernel) 44 (by kernel_rfl)).trans h
     clear  hd h0 he ha hF
     go_simp
     rw [HF.out]
     exact ⟨OnlyL.of_below ((Below.refl _ _).alloc (Nat.le_refl _) _), rfl, by simp, NewBox.new _ _ _⟩
    ·intro gh ρ u hc hf1 hg1 hd h0 hb he ha hF
     first | (replace hb : Below w6.heap.size w6 u := hb.drew.below (by decide +kernel)) | (replace hb : Only (w.heap.size + 1) (w.heap.size + 1 + 1) w6 u := hb.drew.only)
     have hbz : w6.heap.size ≤ u.heap.size := hb.size
     have f3 : ∃ (A3 : Option Addr) (c3 : Nat), (gh 3).v = .slice A3 n c3 ∧ RowIn (inG (gh 3) [(gh 0)]) u 55 5 (.slice A3 n c3) (n) (ents l) := by have h := hF 3 (by decide +kernel) (by decide +kernel); rw [HF.out] at h; exact h
     obtain ⟨A3, c3, hv3, hrow3⟩ := f3
     have r43 : ρ (.tmp 43) = .slice A3 n c3 := (hd 3 (by decide +kernel) 43 (by kernel_rfl)).trans hv3
     have f5 : (gh 5).v = .slice (some ⟨(gh 5).s, 0, none⟩) 1 1 ∧ (gh 5).s < (gh 5).e ∧ NewBox u (gh 5).s (ents [(newEnt l t ti k b)]) := by have h := hF 5 (by decide +kernel) (by decide +kernel); rw [HF.out] at h; exact h
     obtain ⟨hv5, hlt5, hnb5⟩ := f5
     have r45 : ρ (.tmp 45) = .slice (some ⟨(gh 5).s, 0, none⟩) 1 1 := (hd 5 (by decide +kernel) 45 (by kernel_rfl)).trans hv5
     clear hv3 hv5 hd h0 he ha hF
     refine gapp1Ent _ _ rfl _ (n) (ents l) r43 hrow3 _ (newEnt l t ti k b) r45 hnb5 (by omega) ?_
     intro A' c' u' hrow hlt hg
     rw [HF.out]
     have hS : ∀ k, inG (gh 3) [gh 0] k → ∃ z ∈ ([3, 0] : List Nat), (gh z).s ≤ k ∧ k < (gh z).e := by
      rintro k (h | ⟨t, ht, h⟩)
      ·exact ⟨3, by decide, h⟩
      ·simp only [List.mem_cons, List.not_mem_nil, or_false] at ht
       rcases ht with rfl
       ·exact ⟨0, by decide, h⟩
     refine ⟨⟨hg.os, hg.tape, hg.output, hg.size, fun k hk hd' _ => hg.block k hk (fun e => ?_)⟩, A', c', rfl, ?_⟩
     ·obtain ⟨z, hz, h1, h2⟩ := hS k (hrow3.at_ k e.symm); have := hd' (gh z) (List.mem_map.2 ⟨z, hz, rfl⟩); omega
     ·exact RowIn.widen hrow (fun k hk => .inr (let ⟨z, hz, h⟩ := hS k hk; ⟨gh z, List.mem_map.2 ⟨z, hz, rfl⟩, h⟩)) (fun e => .inl ⟨Nat.le_refl _, hlt _ e⟩)
    ·intro gh ρ u hc hf1 hg1 hd h0 hb he ha hF
     have f6 : ∃ (A4 : Option Addr) (c4 : Nat), (gh 6).v = .slice A4 (n + 1) c4 ∧ RowIn (inG (gh 6) [(gh 3), (gh 0)]) u 55 5 (.slice A4 (n + 1) c4) ((n + 1)) ((ents l ++ ents [newEnt l t ti k b])) := by have h := hF 6 (by decide +kernel) (by decide +kernel); rw [HF.out] at h; exact h
     obtain ⟨A4, c4, hv6, hrow6⟩ := f6
     have hrt6 := hv6
     have r46 : ρ (.tmp 46) = .slice A4 (n + 1) c4 := (hd 6 (by decide +kernel) 46 (by kernel_rfl)).trans hv6
     have HRT6 := Lib.hid hrt6
     clear hv6 hrt6 hd h0 he ha hF
     go_simp
     rw [HF.out]
     exact ⟨OnlyL.refl _ _, A4, c4, HRT6.out, rfl⟩
    ·intro gh ρ u hc hf1 hg1 hd h0 hb he ha hF
     have r5 : ρ (.tmp 5) = .pointer (some ⟨w.heap.size, 0, none⟩) := (h0 5 (by decide +kernel)).trans rfl
     clear  hd h0 he ha hF
     go_simp
     rw [HF.out]
     exact ⟨OnlyL.refl _ _, rfl⟩
    ·intro gh ρ u hc hf1 hg1 hd h0 hb he ha hF
     first | (replace hb : Below w6.heap.size w6 u := hb.drew.below (by decide +kernel)) | (replace hb : Only (w.heap.size + 1) (w.heap.size + 1 + 1) w6 u := hb.drew.only)
     have hbz : w6.heap.size ≤ u.heap.size := hb.size
     have r48 : ρ (.tmp 48) = .pointer (some ⟨(w.heap.size), 0, none⟩) := by have h := hF 8 (by decide +kernel) (by decide +kernel); rw [HF.out] at h; exact (hd 8 (by decide +kernel) 48 (by kernel_rfl)).trans h
     have q_l0 : ∀ o, u.cell? ⟨w.heap.size, o, none⟩ = [.slice A n c][o]? := by first | exact (HXl0.out.below hb).2.1 | exact (HXl0.out.only hb (by omega)).2.1
     have k_l0 : w.heap.size < u.heap.size := by have := HXl0.out.1; omega
     have q_e : ∀ o, u.cell? ⟨w4.heap.size, o, none⟩ = [.string t, .int .i64 (cnt l t : Nat), .int .i64 ti, .string k, .string b][o]? := by first | exact (HXe.out.below hb).2.1 | exact (HXe.out.only hb (by omega)).2.1
     have k_e : w4.heap.size < u.heap.size := by have := HXe.out.1; omega
     clear  hd h0 he ha hF
     go_simp
     rw [HF.out]
     exact ⟨OnlyL.refl _ _, rfl⟩
    ·intro gh ρ u hc hf1 hg1 hd h0 hb he ha hF
     have r49 : ρ (.tmp 49) = .slice A n c := by have h := hF 9 (by decide +kernel) (by decide +kernel); rw [HF.out] at h; exact (hd 9 (by decide +kernel) 49 (by kernel_rfl)).trans h
     clear  hd h0 he ha hF
     go_simp
     rw [HF.out]
     exact ⟨OnlyL.refl _ _, rfl⟩
    ·intro gh ρ u hc hf1 hg1 hd h0 hb he ha hF
     first | (replace hb : Below w6.heap.size w6 u := hb.drew.below (by decide +kernel)) | (replace hb : Only (w.heap.size + 1) (w.heap.size + 1 + 1) w6 u := hb.drew.only)
     have hbz : w6.heap.size ≤ u.heap.size := hb.size
     have r10 : ρ (.tmp 10) = .pointer (some ⟨w.heap.size + 1, 0, none⟩) := (h0 10 (by decide +kernel)).trans rfl
     have f7 : ∃ (A4 : Option Addr) (c4 : Nat), (gh 6).v = .slice A4 (n + 1) c4 ∧ (gh 7).v = .agg #[.slice A4 (n + 1) c4] := by have h := hF 7 (by decide +kernel) (by decide +kernel); rw [HF.out] at h; exact h
     obtain ⟨A4, c4, hrt6, hv7⟩ := f7
     have r47 : ρ (.tmp 47) = .agg #[.slice A4 (n + 1) c4] := (hd 7 (by decide +kernel) 47 (by kernel_rfl)).trans hv7
     have HRT6 := Lib.hid hrt6
     obtain ⟨hzk, hzc, hzf⟩ := HXr0.out.below hb
     clear hv7 hrt6 hd h0 he ha hF
     go_simp
     rw [HF.out]
     refine ⟨?_, A4, c4, HRT6.out, ?_⟩
     ·refine OnlyL.of_z (lo := w.heap.size + 1) (hi := w.heap.size + 1 + 1) ?_ rfl; refine Only.setCell ?_ (by exact Nat.le_refl _) (by exact Nat.lt_succ_self _) _; exact Only.refl _ _ _
     ·show NewBox _ (w.heap.size + 1) _
      exact ⟨by simpa [World.setCell] using hzk, fun o => by rcases o with _ | o <;> go_simp, fun o => by go_simp⟩
    ·intro gh ρ u hc hf1 hg1 hd h0 hb he ha hF
     have r50 : ρ (.tmp 50) = .int .i64 (n : Nat) := by have h := hF 10 (by decide +kernel) (by decide +kernel); rw [HF.out] at h; exact (hd 10 (by decide +kernel) 50 (by kernel_rfl)).trans h
     clear  hd h0 he ha hF
     go_simp
     rw [HF.out]
     exact ⟨OnlyL.refl _ _, rfl⟩
    ·intro gh ρ u hc hf1 hg1 hd h0 hb he ha hF
     clear  hd h0 he ha hF
     go_simp
     rw [HF.out]
     exact ⟨OnlyL.refl _ _, rfl⟩
    intro gh w7 hB hE hA hF
    replace hB : Only (w.heap.size + 1) (w.heap.size + 1 + 1) w6 w7 := hB.only
    have f1 : (gh 1).v = .pointer (some ⟨(w.heap.size), 0, none⟩) := by have h := hF 1 (by decide +kernel) (by decide +kernel); rw [HF.out] at h; exact h
    have f2 : (gh 2).v = .slice A n c := by have h := hF 2 (by decide +kernel) (by decide +kernel); rw [HF.out] at h; exact h
    have f4 : (gh 4).v = .agg #[.string t, .int .i64 (cnt l t : Nat), .int .i64 ti, .string k, .string b] := by have h := hF 4 (by decide +kernel) (by decide +kernel); rw [HF.out] at h; exact h
    have f5 : (gh 5).v = .slice (some ⟨(gh 5).s, 0, none⟩) 1 1 ∧ (gh 5).s < (gh 5).e ∧ NewBox w7 (gh 5).s (ents [(newEnt l t ti k b)]) := by have h := hF 5 (by decide +kernel) (by decide +kernel); rw [HF.out] at h; exact h
    have f6 : ∃ (A4 : Option Addr) (c4 : Nat), (gh 6).v = .slice A4 (n + 1) c4 ∧ RowIn (inG (gh 6) [(gh 3), (gh 0)]) w7 55 5 (.slice A4 (n + 1) c4) ((n + 1)) ((ents l ++ ents [newEnt l t ti k b])) := by have h := hF 6 (by decide +kernel) (by decide +kernel); rw [HF.out] at h; exact h
    have f7 : ∃ (A4 : Option Addr) (c4 : Nat), (gh 6).v = .slice A4 (n + 1) c4 ∧ (gh 7).v = .agg #[.slice A4 (n + 1) c4] := by have h := hF 7 (by decide +kernel) (by decide +kernel); rw [HF.out] at h; exact h
    have f8 : (gh 8).v = .pointer (some ⟨(w.heap.size), 0, none⟩) := by have h := hF 8 (by decide +kernel) (by decide +kernel); rw [HF.out] at h; exact h
    have f9 : (gh 9).v = .slice A n c := by have h := hF 9 (by decide +kernel) (by decide +kernel); rw [HF.out] at h; exact h
    have f10 : (gh 10).v = .int .i64 (n : Nat) := by have h := hF 10 (by decide +kernel) (by decide +kernel); rw [HF.out] at h; exact h
    have f11 : ∃ (A4 : Option Addr) (c4 : Nat), (gh 6).v = .slice A4 (n + 1) c4 ∧ NewBox w7 (w.heap.size + 1) [.slice A4 (n + 1) c4] := by have h := hF 11 (by decide +kernel) (by decide +kernel); rw [HF.out] at h; exact h
    have f12 : (gh 12).v = .int .i64 (n : Nat) := by have h := hF 12 (by decide +kernel) (by decide +kernel); rw [HF.out] at h; exact h
    have f13 : (gh 13).v = .int .i64 0 := by have h := hF 13 (by decide +kernel) (by decide +kernel); rw [HF.out] at h; exact h
    obtain ⟨A4, c4, hv6, hrow6⟩ := f6
    have hv1 := f1
    have hv2 := f2
    have hv4 := f4
    obtain ⟨hv5, -⟩ := f5
    obtain ⟨A4_7, c4_7, hu6, hv7⟩ := f7
    replace hu6 := hv6.symm.trans hu6
    simp at hu6
    try simp only [and_assoc] at hu6
    obtain ⟨rfl, rfl⟩ := hu6
    have hv8 := f8
    have hv9 := f9
    have hv10 := f10
    obtain ⟨A4_11, c4_11, hu6, hx11⟩ := f11
    replace hu6 := hv6.symm.trans hu6
    simp at hu6
    try simp only [and_assoc] at hu6
    obtain ⟨rfl, rfl⟩ := hu6
    have hv12 := f12
    have hv13 := f13
    obtain ⟨hs0, hse0, he0⟩ := hE 0 (by decide +kernel)
    obtain ⟨hs3, hse3, he3⟩ := hE 3 (by decide +kernel)
    obtain ⟨hs6, hse6, he6⟩ := hE 6 (by decide +kernel)
    have hdj7_0_3 := hA 0 (by decide +kernel) 3 (by decide +kernel) (by decide)
    have hdj7_0_6 := hA 0 (by decide +kernel) 6 (by decide +kernel) (by decide)
    have hdj7_3_6 := hA 3 (by decide +kernel) 6 (by decide +kernel) (by decide)
    change w6.heap.size ≤ _ at hs0 hs3 hs6
    have hS : ∀ k, inG (gh 6) [gh 3, gh 0] k → w6.heap.size ≤ k ∧ k < w7.heap.size := by
     rintro k (h | ⟨t, ht, h⟩)
     ·omega
     ·simp only [List.mem_cons, List.not_mem_nil, or_false] at ht
      rcases ht with rfl | rfl <;> omega
    have hrwr := hrow6.row
    obtain ⟨hrcr, hrnr, hror⟩ := hrow6.own hS (Nat.le_refl _)
    clear hS hrow6
    clear hE hA hF
    generalize (gh 0).v = vq0 at *
    generalize (gh 3).v = vq3 at *
    simp only [putDs, Nat.reduceAdd, hv1, hv2, hv4, hv5, hv6, hv7, hv8, hv9, hv10, hv12, hv13]
    clear hv1 hv2 hv4 hv5 hv6 hv7 hv8 hv9 hv10 hv12 hv13
    generalize (gh 0).s = s7_0 at *
    generalize (gh 0).e = e7_0 at *
    generalize (gh 3).s = s7_3 at *
    generalize (gh 3).e = e7_3 at *
    generalize (gh 6).s = s7_6 at *
    generalize (gh 6).e = e7_6 at *
    clear HF
    have hb := hB
    clear hB
    have hzw7 : w6.heap.size ≤ w7.heap.size := hb.size
    have hzzw7 : w.heap.size ≤ w7.heap.size := by omega
    replace HB := Lib.hid (below_only HB.out hb (by omega) HB.out.size)
    replace HOA := Lib.hid (HOA.out.only hb (by first | omega | (simp; omega)))
    replace HXl0 := Lib.hid (HXl0.out.only hb (by first | omega | (simp; omega)))
    clear hxl0 hfl0 hkl0
    have hxl0 := HXl0.out.2.1
    have hfl0 := HXl0.out.2.2
    have hkl0 := HXl0.out.1
    clear hxr0 hfr0 hkr0 HXr0
    replace HXe := Lib.hid (HXe.out.only hb (by first | omega | (simp; omega)))
    clear hxe hfe hke
    have hxe := HXe.out.2.1
    have hfe := HXe.out.2.2
    have hke := HXe.out.1
    clear hb
    have HXr0 : Hid (NewBox w7 (w.heap.size + 1) [.slice A4 (n + 1) c4]) := hx11
    have hxr0 := HXr0.out.2.1
    have hfr0 := HXr0.out.2.2
    have hkr0 := HXr0.out.1
    clear hx11
    have ey := addL_yes hc.out
    have el : Hid ((addL l t ti k b).length = n + 1) := by rw [Hid, ey.1, List.length_append, HN.out]; rfl
    have el2 : Hid (ents (addL l t ti k b) = ents l ++ ents [newEnt l t ti k b]) := by rw [Hid, ey.1, ents_app]
    have ef : Hid (addLeaf l t ti k b = (n : Nat)) := by rw [Hid, ey.2, HN.out]
    have HRO := Lib.hid hror
    have HRN := Lib.hid hrnr
    have HRC := Lib.hid hrcr
    clear ey hror hrnr hrwr hrcr
    go_wp2
    refine bodyPost_ret (v := .tuple #[.agg #[.slice A4 (n + 1) c4], .int .i64 n, .int .i64 0]) (by simp [results, Try.results115, go_sem, hxr0]) rfl ?_
    exact ⟨A4, c4, by rw [el.out, ef.out, hc.out], ⟨HRN.out, by rw [el.out]; exact HRC.out⟩, by rw [el2.out]; exact HRO.out.mono (by omega) (Nat.le_refl _) (Nat.le_refl _), (by ((repeat (first | ((with_reducible refine Below.alloc ?_ ?_ _); rotate_left 1; (focus (first | omega | (simp; done) | (simp; omega)))) | (with_reducible refine Below.drew ?_) | ((with_reducible refine Below.setCell ?_ ?_ _); rotate_left 1; (focus (first | omega | (simp; done) | (simp; omega)))))); exact HB.out))⟩
end Go.Proofs.Ytoccjgcokffkbaa
namespace Go.Proofs.Ytoccjgcokffkbaa
set_option linter.unusedVariables false
set_option linter.unusedSimpArgs false
open Go.RowKit
theorem rightAt_snoc {l : List Ent} {e : Ent} {k : Nat} (hk : k < l.length) : rightAt (l ++ [e]) k = rightAt l k := by
 rw [rightAt, rightAt, List.getElem?_append_left hk, List.take_append_of_le_length (Nat.le_of_lt hk)]
theorem logOk_snoc {l : List Ent} {e : Ent} (h : logOk l = true) (hl : l.length < 512) (he : entryOk e = true) (hi : (cnt l e.topic : Int) = e.index) : logOk (l ++ [e]) = true := by
 rw [logOk, Bool.and_eq_true] at *
 refine ⟨decide_eq_true (by rw [List.length_append]; show l.length + 1 ≤ 512; omega), ?_⟩
 rw [List.length_append, show [e].length = 1 from rfl, rightTo_succ, Bool.and_eq_true]
 refine ⟨?_, ?_⟩
 ·have h2 := h.2
  rw [rightTo, List.all_eq_true] at *
  intro k hk
  rw [rightAt_snoc (List.mem_range.1 hk)]
  exact h2 k hk
 ·rw [rightAt_eq (e := e) (by rw [List.getElem?_append_right (Nat.le_refl _), Nat.sub_self]; rfl), List.take_append_of_le_length (Nat.le_refl _), List.take_length, he, hi]
  simp
theorem rcpAt_snoc {l : List Rcp} {e : Rcp} {k : Nat} (hk : k < l.length) : rcpAt (l ++ [e]) k = rcpAt l k := by
 rw [rcpAt, rcpAt, List.getElem?_append_left hk, List.take_append_of_le_length (Nat.le_of_lt hk)]
theorem rcpsOk_snoc {l : List Rcp} {r : Rcp} (h : rcpsOk l = true) (hl : l.length < 512) (hr : rcpOk r = true) (hn : r ∉ l) : rcpsOk (l ++ [r]) = true := by
 rw [rcpsOk, Bool.and_eq_true] at *
 refine ⟨decide_eq_true (by rw [List.length_append]; show l.length + 1 ≤ 512; omega), ?_⟩
 rw [List.length_append, show [r].length = 1 from rfl, rcpsTo_succ, Bool.and_eq_true]
 refine ⟨?_, ?_⟩
 ·have h2 := h.2
  rw [rcpsTo, List.all_eq_true] at *
  intro k hk
  rw [rcpAt_snoc (List.mem_range.1 hk)]
  exact h2 k hk
 ·rw [rcpAt_eq (r := r) (by rw [List.getElem?_append_right (Nat.le_refl _), Nat.sub_self]; rfl), List.take_append_of_le_length (Nat.le_refl _), List.take_length, hr, decide_eq_true hn]
  rfl
theorem headAt_snoc {width : Int} {l : List Hd} {e : Hd} {k : Nat} (hk : k < l.length) : headAt width (l ++ [e]) k = headAt width l k := by
 obtain ⟨x, hx⟩ : ∃ x, l[k]? = some x := ⟨_, List.getElem?_eq_getElem hk⟩
 have hx2 : (l ++ [e])[k]? = some x := by rw [List.getElem?_append_left hk]; exact hx
 rcases Nat.eq_zero_or_pos k with h0 | h0
 ·subst h0
  rw [headAt_0 hx, headAt_0 hx2]
 ·obtain ⟨p, hp⟩ : ∃ p, l[k - 1]? = some p := ⟨_, List.getElem?_eq_getElem (by omega)⟩
  have hp2 : (l ++ [e])[k - 1]? = some p := by rw [List.getElem?_append_left (by omega)]; exact hp
  rw [headAt_s hx hp (by omega), headAt_s hx2 hp2 (by omega)]
theorem headsUp_snoc {width : Int} {l : List Hd} {e : Hd} : ∀ {k : Nat}, k ≤ l.length → headsUp width (l ++ [e]) k = headsUp width l k
 | 0, _ => rfl
 | k + 1, h => by rw [headsUp, headsUp, headsUp_snoc (by omega), headAt_snoc (by omega)]
theorem lastHd_snoc (l : List Hd) (x : Hd) : lastHd (l ++ [x]) = x := by
 rw [lastHd, List.length_append, show l.length + [x].length - 1 = l.length from rfl, List.getD_eq_getElem?_getD, List.getElem?_append_right (Nat.le_refl _), Nat.sub_self]; rfl
theorem headsOk_snoc {width : Int} {l : List Hd} {x : Hd} (h : headsOk width l = true) (h0 : 0 < l.length) (hl : l.length < 400) (hn : x.num = (l.length : Int)) (hx : headOk width x = true) (hf : followsM width (lastHd l) x = true) : headsOk width (l ++ [x]) = true := by
 rw [headsOk, Bool.and_eq_true, Bool.and_eq_true] at *
 refine ⟨⟨h.1.1, decide_eq_true (by rw [List.length_append]; show l.length + 1 ≤ 400; omega)⟩, ?_⟩
 rw [List.length_append, show [x].length = 1 from rfl, headsUp, headsUp_snoc (Nat.le_refl _), h.2, Bool.true_and,
  headAt_s (x := x) (p := lastHd l) (q := l.length - 1) (by rw [List.getElem?_append_right (Nat.le_refl _), Nat.sub_self]; rfl) (by rw [List.getElem?_append_left (by omega)]; exact lastHd_get h0) (by omega), hx, hf, hn]
 simp
theorem headsOk_len {width : Int} {l : List Hd} (h : headsOk width l = true) : l.length ≤ 400 := by
 rw [headsOk, Bool.and_eq_true, Bool.and_eq_true] at h
 exact of_decide_eq_true h.1.2
theorem rootsOk_iff {width : Int} {L T : List ByteArray} {hs : List Hd} : rootsOk width L T hs = true ↔ hs[0]? = some (headZero width) ∧ ∀ x ∈ hs, rootsAt width L T x = true := by
 rw [rootsOk, Bool.and_eq_true, decide_eq_true_iff, rootsTo, List.take_length, List.all_eq_true]
theorem rootsAt_more {width : Int} {L T M N : List ByteArray} {x : Hd} (h : rootsAt width L T x = true) : rootsAt width (L ++ M) (T ++ N) x = true := by
 obtain ⟨h1, h2, h3, h4⟩ := rootsAt_all h
 rw [rootsAt, decide_eq_true (show x.size ≤ ((L ++ M).length : Nat) by rw [List.length_append]; omega), decide_eq_true (show x.taken ≤ ((T ++ N).length : Nat) by rw [List.length_append]; omega),
  List.take_append_of_le_length (by omega), List.take_append_of_le_length (by omega), ← h3, ← h4]
 simp
theorem leavesM_app (width : Int) (a b : List Ent) : leavesM width (a ++ b) = leavesM width a ++ leavesM width b := List.map_append
theorem takenM_app (width : Int) (a b : List Rcp) : takenM width (a ++ b) = takenM width a ++ takenM width b := List.map_append
theorem leavesM_drop (width : Int) (a : List Ent) (n : Nat) : leavesM width (a.drop n) = (leavesM width a).drop n := List.map_drop
theorem takenM_drop (width : Int) (a : List Rcp) (n : Nat) : takenM width (a.drop n) = (takenM width a).drop n := List.map_drop
theorem leafIn_more {es fs : List Ent} {m k : Nat} {r : Rcp} (h : leafIn es m r = true) (hm : m ≤ es.length) (hk : m ≤ k) : leafIn (es ++ fs) k r = true := by
 rw [leafIn, decide_eq_true_iff] at *
 have h2 : firstFrom (isTI r.topic r.index) (((es ++ fs).take k).take m) 0 = firstFrom (isTI r.topic r.index) (es.take m) 0 := by
  rw [List.take_take, Nat.min_eq_left hk, List.take_append_of_le_length hm]
 have h3 := firstFrom_take (p := isTI r.topic r.index) ((es ++ fs).take k) m 0
 rw [h2, decide_eq_true h] at h3
 have h4 := h3.symm
 rw [Bool.and_eq_true] at h4
 exact of_decide_eq_true h4.1
theorem addCode_0 {l : List Ent} {t k b : ByteArray} {ti : Int} (h : addCode l t ti k b = 0) : nameOk t = true ∧ partsOk ti k b = true ∧ l.length < 512 := by
 rw [addCode] at h
 by_cases h1 : nameOk t = true
 ·rw [if_pos h1] at h
  by_cases h2 : partsOk ti k b = true
  ·rw [if_pos h2] at h
   by_cases h3 : 512 ≤ l.length
   ·rw [if_pos (by simpa using h3)] at h; omega
   ·exact ⟨h1, h2, by omega⟩
  ·rw [if_neg h2] at h; omega
 ·rw [if_neg h1] at h; omega
theorem newEnt_ok {l : List Ent} {t k b : ByteArray} {ti : Int} (h : addCode l t ti k b = 0) : entryOk (newEnt l t ti k b) = true := by
 obtain ⟨h1, h2, h3⟩ := addCode_0 h
 rw [entryOk, newEnt]
 show (nameOk t && (inR (cnt l t : Nat) 0 511 && partsOk ti k b)) = true
 rw [h1, h2, inR_true.2 ⟨Int.natCast_nonneg _, by have := cnt_le l t; omega⟩]; rfl
theorem logOk_add {l : List Ent} {t k b : ByteArray} {ti : Int} (hl : logOk l = true) (h : addCode l t ti k b = 0) : logOk (l ++ [newEnt l t ti k b]) = true :=
 logOk_snoc hl (addCode_0 h).2.2 (newEnt_ok h) rfl
section
variable {width : Int} {es : List Ent} {rs : List Rcp} {hs : List Hd}
/-- an entry is published -/
theorem BrkParts.publish (h : BrkParts width es rs hs) {t k b : ByteArray} {ti : Int} (hc : addCode es t ti k b = 0) : BrkParts width (es ++ [newEnt es t ti k b]) rs hs := by
 refine ⟨h.wd, logOk_add h.log hc, h.rcps, h.pos, h.heads, ?_, fun r hr => leafIn_more (h.ins r hr) (by have := h.last; omega) (Nat.le_refl _)⟩
 obtain ⟨h1, h2⟩ := rootsOk_iff.1 h.roots
 refine rootsOk_iff.2 ⟨h1, fun x hx => ?_⟩
 rw [leavesM_app, ← List.append_nil (takenM width rs)]
 exact rootsAt_more (h2 x hx)
/-- a receipt is taken -/
theorem BrkParts.take (h : BrkParts width es rs hs) {r : Rcp} (h1 : rcpOk r = true) (h2 : leafIn es (lastHd hs).size.toNat r = true) (h3 : r ∉ rs) (h4 : rs.length < 512) : BrkParts width es (rs ++ [r]) hs := by
 refine ⟨h.wd, h.log, rcpsOk_snoc h.rcps h4 h1 h3, h.pos, h.heads, ?_, fun x hx => ?_⟩
 ·obtain ⟨k1, k2⟩ := rootsOk_iff.1 h.roots
  refine rootsOk_iff.2 ⟨k1, fun x hx => ?_⟩
  rw [takenM_app, ← List.append_nil (leavesM width es)]
  exact rootsAt_more (k2 x hx)
 ·rcases List.mem_append.1 hx with hx | hx
  ·exact h.ins x hx
  ·rw [List.mem_singleton.1 hx]; exact h2
/-- the peaks that are sealed, by the last head -/
def pk1 (width : Int) (es : List Ent) (hs : List Hd) : List ByteArray := growUp width 0 [] (leavesM width es) (lastHd hs).size.toNat
def pk2 (width : Int) (rs : List Rcp) (hs : List Hd) : List ByteArray := growUp width 0 [] (takenM width rs) (lastHd hs).taken.toNat
theorem BrkParts.ok (h : BrkParts width es rs hs) : brkOk width es rs hs (lastHd hs).size (pk1 width es hs) (lastHd hs).taken (pk2 width rs hs) (lastHd hs) = true := by
 rw [brkOk, h.mk_, sealIs, pk1, pk2]; simp
theorem BrkParts.sealed (h : BrkParts width es rs hs) : sealOk width (lastHd hs).size (pk1 width es hs) (lastHd hs).taken (pk2 width rs hs) (lastHd hs) = true :=
 seal_right h (by rw [sealIs, pk1, pk2]; simp)
/-- the head that is sealed next -/
def nxHd (width : Int) (es : List Ent) (rs : List Rcp) (hs : List Hd) : Hd := ⟨hs.length, (es.length : Nat), rootFu width 513 (leavesM width es), (rs.length : Nat), rootFu width 513 (takenM width rs)⟩
theorem smP_all {width z : Int} {L : List ByteArray} (h0 : 0 ≤ z) (hz : z ≤ (L.length : Nat)) : smP width z (growUp width 0 [] L z.toNat) (L.drop z.toNat) = growUp width 0 [] L L.length := by
 rw [smP, List.length_drop]
 have h := growUp_part (width := width) (L := L) (n := z.toNat) (m := L.length) (by omega) (Nat.le_refl _)
 rwa [List.take_of_length_le (by rw [List.length_drop]; exact Nat.le_refl _)] at h
theorem BrkParts.lastAt (h : BrkParts width es rs hs) : (lastHd hs).num = ((hs.length - 1 : Nat) : Int) ∧ rootsAt width (leavesM width es) (takenM width rs) (lastHd hs) = true := by
 have hg := lastHd_get h.pos
 exact ⟨(headsOk_at h.heads hg).1, (rootsOk_iff.1 h.roots).2 _ (List.mem_of_getElem? hg)⟩
/-- what waits is sealed -/
theorem BrkParts.sm (h : BrkParts width es rs hs) (hl : hs.length < 400) :
  smOk width (lastHd hs).size (pk1 width es hs) (lastHd hs).taken (pk2 width rs hs) (lastHd hs) (leavesM width (es.drop (lastHd hs).size.toNat)) (takenM width (rs.drop (lastHd hs).taken.toNat)) = true ∧
  smP width (lastHd hs).size (pk1 width es hs) (leavesM width (es.drop (lastHd hs).size.toNat)) = growUp width 0 [] (leavesM width es) es.length ∧
  smP width (lastHd hs).taken (pk2 width rs hs) (takenM width (rs.drop (lastHd hs).taken.toNat)) = growUp width 0 [] (takenM width rs) rs.length ∧
  nextHd width (lastHd hs).size (pk1 width es hs) (lastHd hs).taken (pk2 width rs hs) (lastHd hs) (leavesM width (es.drop (lastHd hs).size.toNat)) (takenM width (rs.drop (lastHd hs).taken.toNat)) = nxHd width es rs hs := by
 obtain ⟨b1, b2, b3, b4, b5, b6, b7⟩ := h.last
 have hn := h.lastAt.1
 have hp := h.pos
 have g1 := logOk_len h.log
 have g2 := rcpsOk_len h.rcps
 have e1 : smP width (lastHd hs).size (pk1 width es hs) (leavesM width (es.drop (lastHd hs).size.toNat)) = growUp width 0 [] (leavesM width es) es.length := by
  rw [leavesM_drop, pk1, smP_all b1 (by rw [leavesM_len]; exact b2), leavesM_len]
 have e2 : smP width (lastHd hs).taken (pk2 width rs hs) (takenM width (rs.drop (lastHd hs).taken.toNat)) = growUp width 0 [] (takenM width rs) rs.length := by
  rw [takenM_drop, pk2, smP_all b4 (by rw [takenM_len]; exact b5), takenM_len]
 refine ⟨smOk_of h.sealed ?_ ?_ ?_ ?_ (by omega), e1, e2, ?_⟩
 ·rw [leavesM_drop]; exact (take_are (leavesM_are h.wd h.log) _).2
 ·rw [takenM_drop]; exact (take_are (takenM_are h.wd h.rcps) _).2
 ·rw [leavesM_len, List.length_drop]; omega
 ·rw [takenM_len, List.length_drop]; omega
 ·rw [nextHd, e1, e2, growUp_root (by rw [leavesM_len]; exact Nat.le_refl _) g1, growUp_root (by rw [takenM_len]; exact Nat.le_refl _) g2, List.take_of_length_le (by rw [leavesM_len]; exact Nat.le_refl _), List.take_of_length_le (by rw [takenM_len]; exact Nat.le_refl _), leavesM_len, takenM_len, List.length_drop, List.length_drop, hn, nxHd]
  refine Hd.eq_of ?_ ?_ rfl ?_ rfl
  ·show ((hs.length - 1 : Nat) : Int) + 1 = (hs.length : Int); omega
  ·show (lastHd hs).size + ((es.length - (lastHd hs).size.toNat : Nat) : Int) = (es.length : Int); omega
  ·show (lastHd hs).taken + ((rs.length - (lastHd hs).taken.toNat : Nat) : Int) = (rs.length : Int); omega
theorem BrkParts.nextOk (h : BrkParts width es rs hs) (hl : hs.length < 400) : headOk width (nxHd width es rs hs) = true := by
 obtain ⟨s1, s2, s3, s4⟩ := h.sm hl
 have := seal_next s1
 rw [s4, sealOk, Bool.and_eq_true, Bool.and_eq_true] at this
 exact this.1.2
theorem bl_eq {a b : ByteArray} (h : a = b) : (a.toList == b.toList) = true := by rw [h]; exact beq_self_eq_true _
theorem BrkParts.seal_ (h : BrkParts width es rs hs) (hl : hs.length < 400) : BrkParts width es rs (hs ++ [nxHd width es rs hs]) := by
 obtain ⟨b1, b2, b3, b4, b5, b6, b7⟩ := h.last
 obtain ⟨hn, hra⟩ := h.lastAt
 have hp := h.pos
 have hno := h.nextOk hl
 obtain ⟨r1, r2, r3, r4⟩ := rootsAt_all hra
 have hf : followsM width (lastHd hs) (nxHd width es rs hs) = true := by
  have p1 : aheadM (lastHd hs) (nxHd width es rs hs) = false := by
   rw [aheadM, Bool.or_eq_false_iff, Bool.or_eq_false_iff]
   refine ⟨⟨decide_eq_false ?_, decide_eq_false ?_⟩, decide_eq_false ?_⟩
   ·show ¬ (hs.length : Int) ≤ (lastHd hs).num; omega
   ·show ¬ (es.length : Int) < (lastHd hs).size; omega
   ·show ¬ (rs.length : Int) < (lastHd hs).taken; omega
  have p2 : partedM (lastHd hs) (nxHd width es rs hs) = false := by
   rw [partedM]
   have q1 : ((lastHd hs).size == (nxHd width es rs hs).size) = true → ((lastHd hs).root.toList == (nxHd width es rs hs).root.toList) = true := fun e => bl_eq (by
    have e2 : (lastHd hs).size = (es.length : Int) := eq_of_beq e
    rw [r3, e2]
    show _ = rootFu width 513 (leavesM width es)
    rw [Int.toNat_natCast, List.take_of_length_le (by rw [leavesM_len]; exact Nat.le_refl _)])
   have q2 : ((lastHd hs).taken == (nxHd width es rs hs).taken) = true → ((lastHd hs).troot.toList == (nxHd width es rs hs).troot.toList) = true := fun e => bl_eq (by
    have e2 : (lastHd hs).taken = (rs.length : Int) := eq_of_beq e
    rw [r4, e2]
    show _ = rootFu width 513 (takenM width rs)
    rw [Int.toNat_natCast, List.take_of_length_le (by rw [takenM_len]; exact Nat.le_refl _)])
   rcases a1 : ((lastHd hs).size == (nxHd width es rs hs).size) with _ | _ <;> rcases a2 : ((lastHd hs).taken == (nxHd width es rs hs).taken) with _ | _
   ·cases h7 : ((lastHd hs).root.toList == (nxHd width es rs hs).root.toList) <;> cases h8 : ((lastHd hs).troot.toList == (nxHd width es rs hs).troot.toList) <;> rfl
   ·rw [q2 a2]; cases h7 : ((lastHd hs).root.toList == (nxHd width es rs hs).root.toList) <;> rfl
   ·rw [q1 a1]; cases h8 : ((lastHd hs).troot.toList == (nxHd width es rs hs).troot.toList) <;> rfl
   ·rw [q1 a1, q2 a2]; rfl
  rw [followsM, b7, hno, p1, p2]; rfl
 refine ⟨h.wd, h.log, h.rcps, by rw [List.length_append]; omega, headsOk_snoc h.heads hp hl rfl hno hf, ?_, fun r hr => ?_⟩
 ·obtain ⟨k1, k2⟩ := rootsOk_iff.1 h.roots
  refine rootsOk_iff.2 ⟨by rw [List.getElem?_append_left hp]; exact k1, fun x hx => ?_⟩
  rcases List.mem_append.1 hx with hx | hx
  ·exact k2 x hx
  ·rw [List.mem_singleton.1 hx, rootsAt]
   show (decide ((es.length : Int) ≤ ((leavesM width es).length : Nat)) && (decide ((rs.length : Int) ≤ ((takenM width rs).length : Nat)) && (decide (rootFu width 513 (leavesM width es) = rootFu width 513 ((leavesM width es).take (es.length : Int).toNat)) && decide (rootFu width 513 (takenM width rs) = rootFu width 513 ((takenM width rs).take (rs.length : Int).toNat))))) = true
   rw [Int.toNat_natCast, Int.toNat_natCast, List.take_of_length_le (by rw [leavesM_len]; exact Nat.le_refl _), List.take_of_length_le (by rw [takenM_len]; exact Nat.le_refl _), leavesM_len, takenM_len]
   simp
 ·rw [lastHd_snoc]
  have := leafIn_more (fs := []) (k := es.length) (h.ins r hr) (by omega) (by omega)
  rw [List.append_nil] at this
  exact this
/-- behind the sealing, all is sealed -/
theorem pk_next (h : BrkParts width es rs hs) : pk1 width es (hs ++ [nxHd width es rs hs]) = growUp width 0 [] (leavesM width es) es.length ∧ pk2 width rs (hs ++ [nxHd width es rs hs]) = growUp width 0 [] (takenM width rs) rs.length := by
 rw [pk1, pk2, lastHd_snoc]; exact ⟨rfl, rfl⟩
theorem growUp_sameR {L M : List ByteArray} {n : Nat} : ∀ {k : Nat}, k ≤ L.length → growUp width n [] (L ++ M) k = growUp width n [] L k
 | 0, _ => rfl
 | k + 1, h => by rw [growUp, growUp, growUp_sameR (by omega), List.getD_eq_getElem?_getD, List.getD_eq_getElem?_getD, List.getElem?_append_left (by omega)]
theorem pk1_more (h : BrkParts width es rs hs) (fs : List Ent) : pk1 width (es ++ fs) hs = pk1 width es hs := by
 rw [pk1, pk1, leavesM_app, growUp_sameR (by rw [leavesM_len]; have := h.last; omega)]
theorem pk2_more (h : BrkParts width es rs hs) (fs : List Rcp) : pk2 width (rs ++ fs) hs = pk2 width rs hs := by
 rw [pk2, pk2, takenM_app, growUp_sameR (by rw [takenM_len]; have := h.last; omega)]
/-- a new broker -/
theorem BrkParts.new (hw : inR width 1 32 = true) : BrkParts width [] [] [headZero width] := by
 have hk : headOk width (headZero width) = true := by
  rw [headOk, hw, rootOkM]
  have he := emptyT_size hw
  show ((true && inR 0 0 399 && (inR 0 0 512 && decide (((emptyT width).size : Int) = width) && (decide ((0 : Int) < 0) || decide (emptyT width = emptyT width)))) && rootOkM width 0 (emptyT width)) = true
  rw [rootOkM]
  have he2 : ((emptyT width).size : Int) = width := by first | exact he | omega
  rw [decide_eq_true he2, decide_eq_true (rfl : emptyT width = emptyT width)]
  rfl
 refine ⟨hw, rfl, rfl, Nat.succ_pos _, ?_, rootsOk_iff.2 ⟨rfl, fun x hx => by rw [List.mem_singleton.1 hx]; exact headZero_roots _ _ _⟩, fun r hr => by cases hr⟩
 rw [headsOk, hw, show [headZero width].length = 1 from rfl, headsUp, headsUp, headAt_0 (x := headZero width) rfl, hk]
 rfl
end
end Go.Proofs.Ytoccjgcokffkbaa
namespace Go.Proofs.Ytoccjgcokffkbaa
set_option linter.unusedVariables false
set_option linter.unusedSimpArgs false
open Go.RowKit
/-- where a broker's lists lie, and their rooms -/
structure Bk where
 E : Option Addr
 R : Option Addr
 H : Option Addr
 A1 : Option Addr
 A2 : Option Addr
 ce : Nat
 cr : Nat
 ch : Nat
 c1 : Nat
 c2 : Nat
/-- what a right broker holds -/
structure Bm where
 width : Int
 es : List Ent
 rs : List Rcp
 hs : List Hd
/-- a right broker in memory: its lists lie from block lo on and below hi -/
structure BrkK (w : World) (lo hi : Nat) (a : Bk) (m : Bm) : Prop where
 ok : BrkParts m.width m.es m.rs m.hs
 rE : Rd w lo hi a.E (ents m.es)
 rR : Rd w lo hi a.R (rcps m.rs)
 rH : Rd w lo hi a.H (hds m.hs)
 r1 : Rd w lo hi a.A1 (strs (pk1 m.width m.es m.hs))
 r2 : Rd w lo hi a.A2 (strs (pk2 m.width m.rs m.hs))
 kE : m.es.length ≤ a.ce
 kR : m.rs.length ≤ a.cr
 kH : m.hs.length ≤ a.ch
 nE : a.E = none → a.ce = 0
 nR : a.R = none → a.cr = 0
 nH : a.H = none → a.ch = 0
 n1 : a.A1 = none → a.c1 = 0
 n2 : a.A2 = none → a.c2 = 0
section
variable {w w' : World} {lo hi lo' hi' : Nat} {a : Bk} {m : Bm}
theorem BrkK.map (h : BrkK w lo hi a m) (f : ∀ A xs, Rd w lo hi A xs → Rd w' lo' hi' A xs) : BrkK w' lo' hi' a m :=
 ⟨h.ok, f _ _ h.rE, f _ _ h.rR, f _ _ h.rH, f _ _ h.r1, f _ _ h.r2, h.kE, h.kR, h.kH, h.nE, h.nR, h.nH, h.n1, h.n2⟩
theorem BrkK.below (h : BrkK w lo hi a m) (hb : Below w.heap.size w w') : BrkK w' lo hi a m := h.map fun _ _ r => r.below hb
theorem BrkK.only (h : BrkK w lo hi a m) (ho : Only lo' hi' w w') (hd : hi ≤ lo' ∨ hi' ≤ lo) : BrkK w' lo hi a m := h.map fun _ _ r => r.only ho hd
theorem BrkK.alloc (h : BrkK w lo hi a m) (o : Obj) : BrkK (w.alloc o) lo hi a m := h.map fun _ _ r => r.alloc o
theorem BrkK.drew (h : BrkK w lo hi a m) : BrkK w.drew lo hi a m := h.map fun _ _ r => r.drew
theorem BrkK.setCell (h : BrkK w lo hi a m) {p : Addr} (hp : p.block < lo ∨ hi ≤ p.block) (u : Value) : BrkK (w.setCell p u) lo hi a m := h.map fun _ _ r => r.setCell hp u
theorem BrkK.mono (h : BrkK w lo hi a m) (h1 : lo' ≤ lo) (h2 : hi ≤ hi') (h3 : hi' ≤ w.heap.size) : BrkK w lo' hi' a m := h.map fun _ _ r => r.mono h1 h2 h3
theorem BrkK.base (h : BrkK w lo hi a m) : BrkK w 0 w.heap.size a m := h.map fun _ _ r => r.base
end
theorem nameOk_size {t : ByteArray} (h : nameOk t = true) : t.size ≤ 20 := by
 rw [nameOk, Bool.and_eq_true] at h
 have := inR_true.1 h.1
 omega
theorem ent_fit {e : Ent} (h : entryOk e = true) : e.fits := by
 rw [entryOk, Bool.and_eq_true, Bool.and_eq_true, partsOk, Bool.and_eq_true, Bool.and_eq_true] at h
 obtain ⟨h1, h2, h3, h4, h5⟩ := h
 have a1 := nameOk_size h1
 have a2 := inR_true.1 h2
 have a3 := inR_true.1 h3
 have a4 := of_decide_eq_true h4
 have a5 := of_decide_eq_true h5
 exact ⟨⟨by omega, by omega⟩, ⟨by omega, by omega⟩, by unfold maxLen; omega, by unfold maxLen; omega, by unfold maxLen; omega⟩
theorem rcp_fit {r : Rcp} (h : rcpOk r = true) : r.fits := by
 rw [rcpOk, Bool.and_eq_true, Bool.and_eq_true] at h
 obtain ⟨h1, h2, h3⟩ := h
 have a1 := nameOk_size h1
 have a2 := nameOk_size h2
 have a3 := inR_true.1 h3
 exact ⟨⟨by omega, by omega⟩, by unfold maxLen; omega, by unfold maxLen; omega⟩
/-- what the lists of a right broker fit in -/
theorem parts_fits {width : Int} {es : List Ent} {rs : List Rcp} {hs : List Hd} (h : BrkParts width es rs hs) :
  (∀ x ∈ es, x.fits) ∧ (∀ x ∈ rs, x.fits) ∧ (∀ x ∈ hs, x.fits) ∧ es.length ≤ 512 ∧ rs.length ≤ 512 ∧ hs.length ≤ 400 ∧ hs.length + sumBy Hd.bulk hs ≤ 1048576 ∧ (lastHd hs).fits ∧ (lastHd hs).bulk ≤ 64 ∧
  (pk1 width es hs).length ≤ 20 ∧ (pk2 width rs hs).length ≤ 20 := by
 have hh : ∀ x ∈ hs, x.fits ∧ x.bulk ≤ 64 := fun x hx => by
  obtain ⟨k, hk⟩ := List.mem_iff_getElem?.1 hx
  have h1 := headOk_all (headsOk_at h.heads hk).2.1
  exact ⟨⟨⟨by omega, by omega⟩, ⟨by omega, by omega⟩, ⟨by omega, by omega⟩, by unfold maxLen; omega, by unfold maxLen; omega⟩, by show x.root.size + x.troot.size ≤ 64; omega⟩
 have hl : ∀ l : List Hd, (∀ x ∈ l, x.bulk ≤ 64) → sumBy Hd.bulk l ≤ l.length * 64 := by
  intro l
  induction l with
  | nil => intro _; exact Nat.zero_le _
  | cons x l ih =>
    intro hx
    have h1 := hx x List.mem_cons_self
    have h2 := ih (fun y hy => hx y (List.mem_cons_of_mem _ hy))
    show x.bulk + sumBy Hd.bulk l ≤ _
    rw [List.length_cons, Nat.add_mul]; omega
 have hb := hl hs (fun x hx => (hh x hx).2)
 have hn := headsOk_len h.heads
 have hlast := hh (lastHd hs) (List.mem_of_getElem? (lastHd_get h.pos))
 obtain ⟨r1, r2, _, _⟩ := sealOk_all h.sealed
 have p1 := (rngOk_all r1)
 have p2 := (rngOk_all r2)
 have q1 := popC_le (lastHd hs).size
 have q2 := popC_le (lastHd hs).taken
 refine ⟨fun x hx => ?_, fun x hx => ?_, fun x hx => (hh x hx).1, logOk_len h.log, rcpsOk_len h.rcps, hn, by omega, hlast.1, hlast.2, by omega, by omega⟩
 ·exact ent_fit (logOk_mem h.log x hx)
 ·exact rcp_fit (rcpsOk_mem h.rcps x hx)
end Go.Proofs.Ytoccjgcokffkbaa
namespace Go.Proofs.Ytoccjgcokffkbaa
set_option linter.unusedVariables false
set_option linter.unusedSimpArgs false
open Go.RowKit
theorem info_Head : (Try.prog.info? 48).map (fun i => (i.zero, i.size, i.bytes)) = some (some (.agg #[.int .i64 0, .int .i64 0, .string ByteArray.empty, .int .i64 0, .string ByteArray.empty]), 5, 56) := by kernel_rfl
end Go.Proofs.Ytoccjgcokffkbaa
namespace Go.Proofs.Ytoccjgcokffkbaa
set_option linter.unusedVariables false
set_option linter.unusedSimpArgs false
open Go.RowKit
theorem rcps_one (l : List Rcp) : ∀ u ∈ rcps l, u.oneCell' = true := by
 intro u hu
 obtain ⟨x, _, h⟩ := List.mem_flatMap.1 hu
 simp only [Rcp.cells, List.mem_cons, List.not_mem_nil, or_false] at h
 rcases h with rfl | rfl | rfl <;> rfl
theorem hds_one (l : List Hd) : ∀ u ∈ hds l, u.oneCell' = true := by
 intro u hu
 obtain ⟨x, _, h⟩ := List.mem_flatMap.1 hu
 simp only [Hd.cells, List.mem_cons, List.not_mem_nil, or_false] at h
 rcases h with rfl | rfl | rfl | rfl | rfl <;> rfl
theorem rcps_app (a b : List Rcp) : rcps (a ++ b) = rcps a ++ rcps b := by rw [rcps, List.flatMap_append]; rfl
theorem hds_app (a b : List Hd) : hds (a ++ b) = hds a ++ hds b := by rw [hds, List.flatMap_append]; rfl
theorem gappRcp {w : World} {ρ : Operand → Value} {o : Oper} {R : Value → World → Prop} (s x : Operand)
  (ho : o.op = .call { callee := .builtin .append, args := #[s, x], argTypes := #[43, 43] }) (v : Value) (n : Nat) (xs : List Value) (hs : ρ s = v) {S : Nat → Prop} (hown : RowIn S w 57 3 v n xs)
  (A : Option Addr) (q c lo hi' : Nat) (l : List Rcp) (hx : ρ x = .slice A q c) (hl : l.length = q) (hr : Rd w lo hi' A (rcps l)) (hA : A = none → c = 0) (h63 : n + q ≤ 100000000)
  (h : ∀ A' c' w', RowIn (fun k => S k ∨ k = w.heap.size) w' 57 3 (.slice A' (n + q) c') (n + q) (xs ++ rcps l) → (∀ k, (.slice A' (n + q) c' : Value).ownBlock = some k → k < w'.heap.size) → w.grownBy w' v.ownBlock → R (.slice A' (n + q) c') w') :
  Gives Try.prog R ((execOp ρ o).run Try.prog w) := by
 obtain ⟨i0, hi0, hz0, hz1, hz2⟩ := info_parts info_Receipt
 exact gives_append_rd s x _ ho _ i0 (.agg #[.string ByteArray.empty, .string ByteArray.empty, .int .i64 0]) 3 40 Try.underlying43 hi0 hz0 hz1 hz2 rfl (by decide) v n xs hs hown A q c lo hi' _ hx (by rw [rcps_len, hl]; try omega) hr hA (rcps_one _) (by unfold maxLen; omega) (by omega) h
theorem gappHd {w : World} {ρ : Operand → Value} {o : Oper} {R : Value → World → Prop} (s x : Operand)
  (ho : o.op = .call { callee := .builtin .append, args := #[s, x], argTypes := #[44, 44] }) (v : Value) (n : Nat) (xs : List Value) (hs : ρ s = v) {S : Nat → Prop} (hown : RowIn S w 48 5 v n xs)
  (A : Option Addr) (q c lo hi' : Nat) (l : List Hd) (hx : ρ x = .slice A q c) (hl : l.length = q) (hr : Rd w lo hi' A (hds l)) (hA : A = none → c = 0) (h63 : n + q ≤ 100000000)
  (h : ∀ A' c' w', RowIn (fun k => S k ∨ k = w.heap.size) w' 48 5 (.slice A' (n + q) c') (n + q) (xs ++ hds l) → (∀ k, (.slice A' (n + q) c' : Value).ownBlock = some k → k < w'.heap.size) → w.grownBy w' v.ownBlock → R (.slice A' (n + q) c') w') :
  Gives Try.prog R ((execOp ρ o).run Try.prog w) := by
 obtain ⟨i0, hi0, hz0, hz1, hz2⟩ := info_parts info_Head
 exact gives_append_rd s x _ ho _ i0 (.agg #[.int .i64 0, .int .i64 0, .string ByteArray.empty, .int .i64 0, .string ByteArray.empty]) 5 56 Try.underlying44 hi0 hz0 hz1 hz2 rfl (by decide) v n xs hs hown A q c lo hi' _ hx (by rw [hds_len, hl]; try omega) hr hA (hds_one _) (by unfold maxLen; omega) (by omega) h
end Go.Proofs.Ytoccjgcokffkbaa
namespace Go.Proofs.Ytoccjgcokffkbaa
set_option linter.unusedVariables false
set_option linter.unusedSimpArgs false
open Go.RowKit
/-- a row of the call's own that lies between two blocks -/
def RowB (w : World) (lo hi : Nat) (a : Value × Nat) (xs : List Value) : Prop := w.ownsRow lo 9 1 a.1 a.2 xs ∧ ∀ k, a.1.ownBlock = some k → k < hi
section
variable {w w' : World} {lo hi lo' hi' : Nat} {a : Value × Nat} {xs : List Value}
theorem RowB.keep (h : RowB w lo hi a xs) (hb : ∀ k, k < w.heap.size → lo ≤ k → k < hi → w'.heap[k]? = w.heap[k]?) : RowB w' lo hi a xs := by
 refine ⟨⟨h.1.1, ?_⟩, h.2⟩
 rcases h.1.2 with h1 | ⟨g, cap, cur, h1, h2, h3, h4⟩
 ·exact .inl h1
 ·exact .inr ⟨g, cap, cur, h1, h2, (hb g (Array.getElem?_eq_some_iff.1 h3).1 h2 (h.2 g (by rw [h1]; rfl))).trans h3, h4⟩
theorem RowB.of {n : Nat} {v : Value} (h : w.ownsRow lo 9 1 v n xs) : RowB w lo w.heap.size (v, n) xs := ⟨h, fun k hk => (h.lt k hk).2⟩
theorem RowB.mono (h : RowB w lo hi a xs) (h1 : lo' ≤ lo) (h2 : hi ≤ hi') : RowB w lo' hi' a xs := ⟨row_mono h.1 h1, fun k hk => Nat.lt_of_lt_of_le (h.2 k hk) h2⟩
theorem RowB.below (h : RowB w lo hi a xs) (hb : Below w.heap.size w w') : RowB w' lo hi a xs := h.keep (fun k hk _ _ => hb.block k hk)
theorem RowB.alloc (h : RowB w lo hi a xs) (o : Obj) : RowB (w.alloc o) lo hi a xs := h.below ((Below.refl _ _).alloc (Nat.le_refl _) o)
theorem RowB.drew (h : RowB w lo hi a xs) : RowB w.drew lo hi a xs := h
theorem RowB.setCell (h : RowB w lo hi a xs) {p : Addr} (hp : p.block < lo ∨ hi ≤ p.block) (u : Value) : RowB (w.setCell p u) lo hi a xs := h.keep (fun k _ h1 h2 => Below.heap_setCell _ _ _ _ (by omega))
theorem RowB.only (h : RowB w lo hi a xs) (ho : Only lo' hi' w w') (hd : hi ≤ lo' ∨ hi' ≤ lo) : RowB w' lo hi a xs := h.keep (fun k hk h1 h2 => ho.block k hk (by omega))
theorem RowB.own {A : Option Addr} {n c m : Nat} (h : RowB w lo hi (.slice A n c, m) xs) (hm : m = n) : Own w lo w.heap.size A xs := by
 subst hm; exact Own.of_ownsRow h.1
end
/-- a string, or two, behind such a row -/
theorem rowB_app {w w5 : World} {lo n m : Nat} {v v5 : Value} {xs ys : List Value} (h : w.ownsRow lo 9 1 v n xs) (t : Obj) (h5 : w5.ownsRow lo 9 1 v5 m ys) (hg : (w.alloc t).grownBy w5 v.ownBlock) :
  RowB w5 lo w5.heap.size (v5, m) ys ∧ Only lo (w.heap.size + 1) w w5 := by
 refine ⟨RowB.of h5, ?_⟩
 have h1 : Only lo (w.heap.size + 1) (w.alloc t) w5 := by
  have := grown_only (h.alloc t) hg
  simpa using this
 exact (Only.of_below ((Below.refl _ _).alloc (Nat.le_refl _) t)).trans h1
end Go.Proofs.Ytoccjgcokffkbaa
namespace Go.Proofs.Ytoccjgcokffkbaa
set_option linter.unusedVariables false
set_option linter.unusedSimpArgs false
open Go.RowKit
/-- a row of the call's own, of whatever type, that lies between two blocks -/
def RowT (w : World) (lo hi : Nat) (a : (TypeId × Nat) × Value × Nat) (xs : List Value) : Prop := w.ownsRow lo a.1.1 a.1.2 a.2.1 a.2.2 xs ∧ ∀ k, a.2.1.ownBlock = some k → k < hi
section
variable {w w' : World} {lo hi lo' hi' : Nat} {a : (TypeId × Nat) × Value × Nat} {xs : List Value}
theorem RowT.keep (h : RowT w lo hi a xs) (hb : ∀ k, k < w.heap.size → lo ≤ k → k < hi → w'.heap[k]? = w.heap[k]?) : RowT w' lo hi a xs := by
 refine ⟨⟨h.1.1, ?_⟩, h.2⟩
 rcases h.1.2 with h1 | ⟨g, cap, cur, h1, h2, h3, h4⟩
 ·exact .inl h1
 ·exact .inr ⟨g, cap, cur, h1, h2, (hb g (Array.getElem?_eq_some_iff.1 h3).1 h2 (h.2 g (by rw [h1]; rfl))).trans h3, h4⟩
theorem RowT.of {e : TypeId} {size n : Nat} {v : Value} (h : w.ownsRow lo e size v n xs) : RowT w lo w.heap.size ((e, size), v, n) xs := ⟨h, fun k hk => (h.lt k hk).2⟩
theorem RowT.mono (h : RowT w lo hi a xs) (h1 : lo' ≤ lo) (h2 : hi ≤ hi') : RowT w lo' hi' a xs := ⟨row_mono h.1 h1, fun k hk => Nat.lt_of_lt_of_le (h.2 k hk) h2⟩
theorem RowT.below (h : RowT w lo hi a xs) (hb : Below w.heap.size w w') : RowT w' lo hi a xs := h.keep (fun k hk _ _ => hb.block k hk)
theorem RowT.alloc (h : RowT w lo hi a xs) (o : Obj) : RowT (w.alloc o) lo hi a xs := h.below ((Below.refl _ _).alloc (Nat.le_refl _) o)
theorem RowT.drew (h : RowT w lo hi a xs) : RowT w.drew lo hi a xs := h
theorem RowT.setCell (h : RowT w lo hi a xs) {p : Addr} (hp : p.block < lo ∨ hi ≤ p.block) (u : Value) : RowT (w.setCell p u) lo hi a xs := h.keep (fun k _ h1 h2 => Below.heap_setCell _ _ _ _ (by omega))
theorem RowT.only (h : RowT w lo hi a xs) (ho : Only lo' hi' w w') (hd : hi ≤ lo' ∨ hi' ≤ lo) : RowT w' lo hi a xs := h.keep (fun k hk h1 h2 => ho.block k hk (by omega))
/-- what such a row reads as -/
theorem RowT.own {e : TypeId} {size n c : Nat} {A : Option Addr} (h : RowT w lo hi ((e, size), .slice A n c, n) xs) (hh : hi ≤ w.heap.size) : n ≤ c ∧ (A = none → c = 0) ∧ Own w lo hi A xs := by
 obtain ⟨A', c', e1, h1, h2, h3⟩ := ownsRow_slice h.1
 injection e1 with e1 _ e3
 subst e1
 subst e3
 refine ⟨h1, h2, fun hn => ?_⟩
 obtain ⟨b, off, g1, g2, g3, g4, g5, g6⟩ := h3 hn
 subst g1
 exact ⟨b, off, rfl, g2, h.2 b rfl, hh, g5, g6⟩
theorem RowT.rd {e : TypeId} {size n c : Nat} {A : Option Addr} (h : RowT w lo hi ((e, size), .slice A n c, n) xs) (hh : hi ≤ w.heap.size) : Rd w lo hi A xs := (h.own hh).2.2.rd
end
theorem RowT.keepB {w w' : World} {lo hi : Nat} {a : (TypeId × Nat) × Value × Nat} {xs : List Value} (h : RowT w lo hi a xs) (hb : ∀ k, a.2.1.ownBlock = some k → k < w.heap.size → w'.heap[k]? = w.heap[k]?) : RowT w' lo hi a xs := by
 refine ⟨⟨h.1.1, ?_⟩, h.2⟩
 rcases h.1.2 with h1 | ⟨g, cap, cur, h1, h2, h3, h4⟩
 ·exact .inl h1
 ·exact .inr ⟨g, cap, cur, h1, h2, (hb g (by rw [h1]; rfl) (Array.getElem?_eq_some_iff.1 h3).1).trans h3, h4⟩
theorem RowT.grown {w w' : World} {lo hi : Nat} {a : (TypeId × Nat) × Value × Nat} {xs : List Value} (h : RowT w lo hi a xs) {r : Option Nat} (hg : w.grownBy w' r) (hap : ∀ k, a.2.1.ownBlock = some k → r ≠ some k) : RowT w' lo hi a xs :=
 h.keepB fun k hk hl => hg.block k hl (fun e => hap k hk e.symm)
theorem RowT.of0 {w : World} {lo hi n size : Nat} {e : TypeId} {v : Value} {xs : List Value} (h : w.ownsRow 0 e size v n xs) (hb : ∀ k, v.ownBlock = some k → lo ≤ k ∧ k < hi) : RowT w lo hi ((e, size), v, n) xs := by
 refine ⟨⟨h.1, ?_⟩, fun k hk => (hb k hk).2⟩
 rcases h.2 with h1 | ⟨g, cap, cur, h1, _, h3, h4⟩
 ·exact .inl h1
 ·exact .inr ⟨g, cap, cur, h1, (hb g (by rw [h1]; rfl)).1, h3, h4⟩
theorem RowT.at_ {w : World} {lo hi : Nat} {a : (TypeId × Nat) × Value × Nat} {xs : List Value} (h : RowT w lo hi a xs) : ∀ k, a.2.1.ownBlock = some k → lo ≤ k ∧ k < hi := fun k hk => ⟨(h.1.lt k hk).1, h.2 k hk⟩
theorem RowT.onlyG {w w' : World} {lo hi : Nat} {a : (TypeId × Nat) × Value × Nat} {xs : List Value} (h : RowT w lo hi a xs) (hg : w.grownBy w' a.2.1.ownBlock) : Only lo hi w w' :=
 ⟨hg.os, hg.tape, hg.output, hg.size, fun k hk hd => hg.block k hk (fun e => by have := h.at_ k e.symm; omega)⟩
/-- two rows lie in no block together -/
def Ap (v1 v2 : Value) : Prop := ∀ k, v1.ownBlock = some k → v2.ownBlock ≠ some k
theorem Ap.symm {v1 v2 : Value} (h : Ap v1 v2) : Ap v2 v1 := fun k h1 h2 => h k h2 h1
/-- the lists of a broker -/
structure Bl where
 es : List Ent
 rs : List Rcp
 hs : List Hd
 l1 : List ByteArray
 l2 : List ByteArray
def Bm.bl (m : Bm) : Bl := ⟨m.es, m.rs, m.hs, pk1 m.width m.es m.hs, pk2 m.width m.rs m.hs⟩
/-- a copy of a broker: five rows of the call's own, apart -/
structure CopyK (w : World) (lo hi : Nat) (a : Bk) (m : Bl) : Prop where
 e : RowT w lo hi ((55, 5), .slice a.E m.es.length a.ce, m.es.length) (ents m.es)
 r : RowT w lo hi ((57, 3), .slice a.R m.rs.length a.cr, m.rs.length) (rcps m.rs)
 h : RowT w lo hi ((48, 5), .slice a.H m.hs.length a.ch, m.hs.length) (hds m.hs)
 a1 : RowT w lo hi ((9, 1), .slice a.A1 m.l1.length a.c1, m.l1.length) (strs m.l1)
 a2 : RowT w lo hi ((9, 1), .slice a.A2 m.l2.length a.c2, m.l2.length) (strs m.l2)
 er : Ap (.slice a.E m.es.length a.ce) (.slice a.R m.rs.length a.cr)
 eh : Ap (.slice a.E m.es.length a.ce) (.slice a.H m.hs.length a.ch)
 rh : Ap (.slice a.R m.rs.length a.cr) (.slice a.H m.hs.length a.ch)
 r1 : Ap (.slice a.A1 m.l1.length a.c1) (.slice a.R m.rs.length a.cr)
 r2 : Ap (.slice a.A2 m.l2.length a.c2) (.slice a.R m.rs.length a.cr)
 h1 : Ap (.slice a.A1 m.l1.length a.c1) (.slice a.H m.hs.length a.ch)
 h2 : Ap (.slice a.A2 m.l2.length a.c2) (.slice a.H m.hs.length a.ch)
section
variable {w w' : World} {lo hi lo' hi' : Nat} {a : Bk} {m : Bl}
theorem CopyK.map (h : CopyK w lo hi a m) (f : ∀ {a xs}, RowT w lo hi a xs → RowT w' lo' hi' a xs) : CopyK w' lo' hi' a m :=
 ⟨f h.e, f h.r, f h.h, f h.a1, f h.a2, h.er, h.eh, h.rh, h.r1, h.r2, h.h1, h.h2⟩
theorem CopyK.below (h : CopyK w lo hi a m) (hb : Below w.heap.size w w') : CopyK w' lo hi a m := h.map fun r => r.below hb
theorem CopyK.only (h : CopyK w lo hi a m) (ho : Only lo' hi' w w') (hd : hi ≤ lo' ∨ hi' ≤ lo) : CopyK w' lo hi a m := h.map fun r => r.only ho hd
theorem CopyK.alloc (h : CopyK w lo hi a m) (o : Obj) : CopyK (w.alloc o) lo hi a m := h.map fun r => r.alloc o
theorem CopyK.drew (h : CopyK w lo hi a m) : CopyK w.drew lo hi a m := h.map fun r => r.drew
theorem CopyK.setCell (h : CopyK w lo hi a m) {p : Addr} (hp : p.block < lo ∨ hi ≤ p.block) (u : Value) : CopyK (w.setCell p u) lo hi a m := h.map fun r => r.setCell hp u
theorem CopyK.mono (h : CopyK w lo hi a m) (h1 : lo' ≤ lo) (h2 : hi ≤ hi') : CopyK w lo' hi' a m := h.map fun r => r.mono h1 h2
end
/-- five rows make a right broker in memory -/
theorem brk_rows {w : World} {lo ea eb ra rb ha hb ne nr nh ce cr ch c1 c2 : Nat} {E R H A1 A2 : Option Addr} {width : Int} {es : List Ent} {rs : List Rcp} {hs : List Hd} (ok : BrkParts width es rs hs) (hne : es.length = ne) (hnr : rs.length = nr) (hnh : hs.length = nh)
  (e : RowT w ea eb ((55, 5), .slice E ne ce, ne) (ents es)) (r : RowT w ra rb ((57, 3), .slice R nr cr, nr) (rcps rs)) (h : RowT w ha hb ((48, 5), .slice H nh ch, nh) (hds hs))
  (a1 : Rd w lo w.heap.size A1 (strs (pk1 width es hs))) (a2 : Rd w lo w.heap.size A2 (strs (pk2 width rs hs))) (n1 : A1 = none → c1 = 0) (n2 : A2 = none → c2 = 0) (h1 : lo ≤ ea ∧ eb ≤ w.heap.size) (h2 : lo ≤ ra ∧ rb ≤ w.heap.size) (h3 : lo ≤ ha ∧ hb ≤ w.heap.size) :
  BrkK w lo w.heap.size ⟨E, R, H, A1, A2, ce, cr, ch, c1, c2⟩ ⟨width, es, rs, hs⟩ := by
 subst hne
 subst hnr
 subst hnh
 obtain ⟨p1, p2, p3⟩ := e.own h1.2
 obtain ⟨q1, q2, q3⟩ := r.own h2.2
 obtain ⟨r1, r2, r3⟩ := h.own h3.2
 exact ⟨ok, p3.rd.mono h1.1 h1.2 (Nat.le_refl _), q3.rd.mono h2.1 h2.2 (Nat.le_refl _), r3.rd.mono h3.1 h3.2 (Nat.le_refl _), a1, a2, p1, q1, r1, p2, q2, r2, n1, n2⟩
theorem RowT.cast {w : World} {lo hi : Nat} {a a' : (TypeId × Nat) × Value × Nat} {xs : List Value} (h : RowT w lo hi a xs) (e : a = a') : RowT w lo hi a' xs := e ▸ h
set_option maxRecDepth 100000 in
theorem app1LRcp {w : World} {ops : Array Oper} {rest : List Oper} {o : Oper} {a : Act} {Q : Exit → Act → World → Prop} (hgd : o.guard = none) (s x : Operand)
  (ho : o.op = .call { callee := .builtin .append, args := #[s, x], argTypes := #[43, 43] }) (lo hi k : Nat) (v : Value) (n : Nat) (xs : List Value) (x0 : Rcp) (hs : a.eval s = v) (h0 : RowT w lo hi ((57, 3), v, n) xs)
  (hx : a.eval x = .slice (some ⟨k, 0, none⟩) 1 1) (hr : NewBox w k (rcps [x0])) (h63 : n + 1 ≤ 100000000) (hbase : lo ≤ w.heap.size) (H : Nat) (hH : w.heap.size = H)
  (h : ∀ g cap w', lo ≤ g → (g < hi ∨ g = H) → g < w'.heap.size → RowT w' g (g + 1) ((57, 3), .slice (some ⟨g, 0, none⟩) (n + 1) cap, n + 1) (xs ++ rcps [x0]) → w.grownBy w' v.ownBlock → wpList Try.prog ops Q rest (a.put o.dst (.slice (some ⟨g, 0, none⟩) (n + 1) cap)) w') : wpList Try.prog ops Q (o :: rest) a w := by
 obtain ⟨i0, hi0, hz0, hz1, hz2⟩ := info_parts info_Receipt
 refine wpList_append_lies _ hgd s x _ ho lo _ i0 (.agg #[.string ByteArray.empty, .string ByteArray.empty, .int .i64 0]) 3 40 Try.underlying43 hi0 hz0 hz1 hz2 rfl (by decide) v n xs hs h0.1 ⟨k, 0, none⟩ 1 1 (rcps [x0]) hx (by rw [rcps_len]; try rfl) (fun j u hu => by rw [Addr.add_lit, Nat.zero_add]; exact (hr.2.1 j).trans hu) (rcps_one _) (by omega) (by unfold maxLen; omega) (by omega) hbase H hH ?_
 intro g cap w' h1 h2 h3 h4
 have hlo : lo ≤ g := (h1.lt g rfl).1
 refine h g cap w' hlo (h3.elim (fun e => .inl (h0.2 g e)) .inr) h4 ⟨?_, fun k hk => by have hk' : g = k := (by injection hk); show k < g + 1; omega⟩ h2
 refine ⟨h1.1, ?_⟩
 rcases h1.2 with ⟨e, _⟩ | ⟨g', cap', cur, e, h5, h6⟩
 ·cases e
 ·cases e; exact .inr ⟨g, cap, cur, rfl, Nat.le_refl _, h6⟩
set_option maxRecDepth 100000 in
theorem app1LHd {w : World} {ops : Array Oper} {rest : List Oper} {o : Oper} {a : Act} {Q : Exit → Act → World → Prop} (hgd : o.guard = none) (s x : Operand)
  (ho : o.op = .call { callee := .builtin .append, args := #[s, x], argTypes := #[44, 44] }) (lo hi k : Nat) (v : Value) (n : Nat) (xs : List Value) (x0 : Hd) (hs : a.eval s = v) (h0 : RowT w lo hi ((48, 5), v, n) xs)
  (hx : a.eval x = .slice (some ⟨k, 0, none⟩) 1 1) (hr : NewBox w k (hds [x0])) (h63 : n + 1 ≤ 100000000) (hbase : lo ≤ w.heap.size) (H : Nat) (hH : w.heap.size = H)
  (h : ∀ g cap w', lo ≤ g → (g < hi ∨ g = H) → g < w'.heap.size → RowT w' g (g + 1) ((48, 5), .slice (some ⟨g, 0, none⟩) (n + 1) cap, n + 1) (xs ++ hds [x0]) → w.grownBy w' v.ownBlock → wpList Try.prog ops Q rest (a.put o.dst (.slice (some ⟨g, 0, none⟩) (n + 1) cap)) w') : wpList Try.prog ops Q (o :: rest) a w := by
 obtain ⟨i0, hi0, hz0, hz1, hz2⟩ := info_parts info_Head
 refine wpList_append_lies _ hgd s x _ ho lo _ i0 (.agg #[.int .i64 0, .int .i64 0, .string ByteArray.empty, .int .i64 0, .string ByteArray.empty]) 5 56 Try.underlying44 hi0 hz0 hz1 hz2 rfl (by decide) v n xs hs h0.1 ⟨k, 0, none⟩ 1 1 (hds [x0]) hx (by rw [hds_len]; try rfl) (fun j u hu => by rw [Addr.add_lit, Nat.zero_add]; exact (hr.2.1 j).trans hu) (hds_one _) (by omega) (by unfold maxLen; omega) (by omega) hbase H hH ?_
 intro g cap w' h1 h2 h3 h4
 have hlo : lo ≤ g := (h1.lt g rfl).1
 refine h g cap w' hlo (h3.elim (fun e => .inl (h0.2 g e)) .inr) h4 ⟨?_, fun k hk => by have hk' : g = k := (by injection hk); show k < g + 1; omega⟩ h2
 refine ⟨h1.1, ?_⟩
 rcases h1.2 with ⟨e, _⟩ | ⟨g', cap', cur, e, h5, h6⟩
 ·cases e
 ·cases e; exact .inr ⟨g, cap, cur, rfl, Nat.le_refl _, h6⟩
/-- other entries in a copy -/
theorem CopyK.pushE {w : World} {lo hi lo0 : Nat} {a : Bk} {m : Bm} (h : CopyK w lo hi a m.bl) (hh : hi ≤ w.heap.size) (h0 : lo0 ≤ lo) (ok : BrkParts m.width m.es m.rs m.hs) {x : Ent} {E' : Option Addr} {c' : Nat} (hn : BrkParts m.width (m.es ++ [x]) m.rs m.hs)
  (hE : Rd w lo0 hi E' (ents (m.es ++ [x]))) (hc : m.es.length + 1 ≤ c') (he : E' = none → c' = 0) : BrkK w lo0 hi { a with E := E', ce := c' } { m with es := m.es ++ [x] } := by
 obtain ⟨q1, q2, q3⟩ := h.r.own hh
 obtain ⟨r1, r2, r3⟩ := h.h.own hh
 obtain ⟨_, s2, s3⟩ := h.a1.own hh
 obtain ⟨_, t2, t3⟩ := h.a2.own hh
 refine ⟨hn, hE, q3.rd.mono h0 (Nat.le_refl _) hh, r3.rd.mono h0 (Nat.le_refl _) hh, ?_, t3.rd.mono h0 (Nat.le_refl _) hh, by show (m.es ++ [x]).length ≤ c'; rw [List.length_append]; exact hc, q1, r1, he, q2, r2, s2, t2⟩
 show Rd w lo0 hi a.A1 (strs (pk1 m.width (m.es ++ [x]) m.hs))
 rw [pk1_more ok]
 exact s3.rd.mono h0 (Nat.le_refl _) hh
end Go.Proofs.Ytoccjgcokffkbaa
namespace Go.Proofs.Ytoccjgcokffkbaa
set_option linter.unusedVariables false
set_option linter.unusedSimpArgs false
open Go.RowKit
theorem row_made0 (w : World) (e : TypeId) (size : Nat) : (w.alloc (.cells #[] e)).ownsRow w.heap.size e size (.slice (some ⟨w.heap.size, 0, none⟩) 0 0) 0 [] := World.ownsRow_made w #[] 0 (Nat.le_refl _) (Nat.zero_le _) (by simp)
theorem made_only {w w' : World} {e : TypeId} (hg : (w.alloc (.cells #[] e)).grownBy w' (Value.slice (some ⟨w.heap.size, 0, none⟩) 0 0).ownBlock) : Below w.heap.size w w' := by
 have h := grown_only (row_made0 w e 1) hg
 exact below_only ((Below.refl _ _).alloc (Nat.le_refl _) _) h (Nat.le_refl _) (by simp)
set_option maxRecDepth 100000 in
set_option maxHeartbeats 4000000 in
theorem l12CopyP_c (width z1 z2 : Int) (E R H A1 A2 : Option Addr) (ne nr nh ce cr ch c1 c2 m1 m2 : Nat) (es : List Ent) (rs : List Rcp) (hs : List Hd) (l1 l2 : List ByteArray) (h : Hd) (w : World)
  (hE : Rd w 0 w.heap.size E (ents es)) (hR : Rd w 0 w.heap.size R (rcps rs)) (hH : Rd w 0 w.heap.size H (hds hs)) (hA1 : Rd w 0 w.heap.size A1 (strs l1)) (hA2 : Rd w 0 w.heap.size A2 (strs l2))
  (hne : es.length = ne) (hnr : rs.length = nr) (hnh : hs.length = nh) (hm1 : l1.length = m1) (hm2 : l2.length = m2) (b1 : ne ≤ 1000) (b2 : nr ≤ 1000) (b3 : nh ≤ 1000) (b4 : m1 ≤ 1000) (b5 : m2 ≤ 1000)
  (nE : E = none → ce = 0) (nR : R = none → cr = 0) (nH : H = none → ch = 0) (n1 : A1 = none → c1 = 0) (n2 : A2 = none → c2 = 0) :
  Calls Try.prog 109 #[.agg #[.int .i64 width, .slice E ne ce, .slice R nr cr, .slice H nh ch, .int .i64 z1, .slice A1 m1 c1, .int .i64 z2, .slice A2 m2 c2, .int .i64 h.num, .int .i64 h.size, .string h.root, .int .i64 h.taken, .string h.troot]] w fun e w' => ∃ a : Bk, e = .returned (.agg #[.int .i64 width, .slice a.E ne a.ce, .slice a.R nr a.cr, .slice a.H nh a.ch, .int .i64 z1, .slice a.A1 m1 a.c1, .int .i64 z2, .slice a.A2 m2 a.c2, .int .i64 h.num, .int .i64 h.size, .string h.root, .int .i64 h.taken, .string h.troot]) ∧
   CopyK w' w.heap.size w'.heap.size a ⟨es, rs, hs, l1, l2⟩ ∧ Below w.heap.size w w' := by
 have HB : Hid (Below w.heap.size w w) := Below.refl _ _
 have HOE : Hid (Rd w (0) (w.heap.size) (E) (ents es)) := Rd.base hE
 have HOR : Hid (Rd w (0) (w.heap.size) (R) (rcps rs)) := Rd.base hR
 have HOH : Hid (Rd w (0) (w.heap.size) (H) (hds hs)) := Rd.base hH
 have HOX : Hid (Rd w (0) (w.heap.size) (A1) (strs l1)) := Rd.base hA1
 have HOY : Hid (Rd w (0) (w.heap.size) (A2) (strs l2)) := Rd.base hA2
 clear hE hR hH hA1 hA2
 have HNE := Lib.hid hne
 have HNR := Lib.hid hnr
 have HNH := Lib.hid hnh
 have HM1 := Lib.hid hm1
 have HM2 := Lib.hid hm2
 have HCE := Lib.hid nE
 have HCR := Lib.hid nR
 have HCH := Lib.hid nH
 have HC1 := Lib.hid n1
 have HC2 := Lib.hid n2
 clear hne hnr hnh hm1 hm2 nE nR nH n1 n2
 go_enter Try.func109, Try.ntmps109
 go_upto_region 2 with fail
 refine wp_named (fun w1 hw => ?_)
 have hz1 : w.heap.size + 3 ≤ w1.heap.size := by rw [hw]; first | omega | (simp [World.setCell]; done) | (simp [World.setCell]; omega)
 have hzz1 : w.heap.size ≤ w1.heap.size := by omega
 have hbn : Below w.heap.size w w1 := by rw [hw]; exact (by ((repeat (first | ((with_reducible refine Below.alloc ?_ ?_ _); rotate_left 1; (focus (first | omega | (simp; done) | (simp; omega)))) | (with_reducible refine Below.drew ?_) | ((with_reducible refine Below.setCell ?_ ?_ _); rotate_left 1; (focus (first | omega | (simp; done) | (simp; omega)))))); exact Below.refl _ _))
 replace HB := Lib.hid (below_then HB.out hbn HB.out.size)
 replace HOE := Lib.hid (HOE.out.below hbn)
 replace HOR := Lib.hid (HOR.out.below hbn)
 replace HOH := Lib.hid (HOH.out.below hbn)
 replace HOX := Lib.hid (HOX.out.below hbn)
 replace HOY := Lib.hid (HOY.out.below hbn)
 clear hbn
 have HXb : Hid (NewBox w1 (w.heap.size) [.int .i64 width, .slice E ne ce, .slice R nr cr, .slice H nh ch, .int .i64 z1, .slice A1 m1 c1, .int .i64 z2, .slice A2 m2 c2, .int .i64 h.num, .int .i64 h.size, .string h.root, .int .i64 h.taken, .string h.troot]) := by rw [Hid, hw]; exact ⟨by first | omega | (simp [World.setCell]; done) | (simp [World.setCell]; omega), fun o => by rcases o with _ | _ | _ | _ | _ | _ | _ | _ | _ | _ | _ | _ | _ | o <;> go_simp, fun o => by go_simp⟩
 have hxb := HXb.out.2.1
 have hfb := HXb.out.2.2
 have hkb := HXb.out.1
 have HXq : Hid (NewBox w1 (w.heap.size + 1) [.int .i64 0, .slice none 0 0, .slice none 0 0, .slice none 0 0, .int .i64 0, .slice none 0 0, .int .i64 0, .slice none 0 0, .int .i64 0, .int .i64 0, .string ⟨#[]⟩, .int .i64 0, .string ⟨#[]⟩]) := by rw [Hid, hw]; exact ⟨by first | omega | (simp [World.setCell]; done) | (simp [World.setCell]; omega), fun o => by rcases o with _ | _ | _ | _ | _ | _ | _ | _ | _ | _ | _ | _ | _ | o <;> go_simp, fun o => by go_simp⟩
 have hxq := HXq.out.2.1
 have hfq := HXq.out.2.2
 have hkq := HXq.out.1
 have HXs : Hid (NewBox w1 (w.heap.size + 2) [.int .i64 z1, .slice A1 m1 c1, .int .i64 z2, .slice A2 m2 c2, .int .i64 h.num, .int .i64 h.size, .string h.root, .int .i64 h.taken, .string h.troot]) := by rw [Hid, hw]; exact ⟨by first | omega | (simp [World.setCell]; done) | (simp [World.setCell]; omega), fun o => by rcases o with _ | _ | _ | _ | _ | _ | _ | _ | _ | o <;> go_simp, fun o => by go_simp⟩
 have hxs := HXs.out.2.1
 have hfs := HXs.out.2.2
 have hks := HXs.out.1
 clear hw
 go_wp2_with (at_builtin; refine appStr rfl _ _ rfl w1.heap.size _ 0 [] rfl (row_made0 w1 _ _) A1 m1 c1 _ _ l1 rfl HM1.out (HOX.out.alloc _) HC1.out (by omega) (by simp) ?_)
 intro v2 w2_ hown2 hg2
 have hb2 := made_only hg2
 try simp only [Nat.zero_add, List.nil_append] at hown2
 obtain ⟨B1, d1, rfl, _, _, _⟩ := ownsRow_slice hown2
 have hzw2_ : w1.heap.size ≤ w2_.heap.size := hb2.size
 have hzzw2_ : w.heap.size ≤ w2_.heap.size := by omega
 replace HB := Lib.hid (below_then HB.out hb2 HB.out.size)
 replace HOE := Lib.hid (HOE.out.below hb2)
 replace HOR := Lib.hid (HOR.out.below hb2)
 replace HOH := Lib.hid (HOH.out.below hb2)
 replace HOX := Lib.hid (HOX.out.below hb2)
 replace HOY := Lib.hid (HOY.out.below hb2)
 replace HXb := Lib.hid (HXb.out.below hb2)
 clear hxb hfb hkb
 have hxb := HXb.out.2.1
 have hfb := HXb.out.2.2
 have hkb := HXb.out.1
 replace HXq := Lib.hid (HXq.out.below hb2)
 clear hxq hfq hkq
 have hxq := HXq.out.2.1
 have hfq := HXq.out.2.2
 have hkq := HXq.out.1
 replace HXs := Lib.hid (HXs.out.below hb2)
 clear hxs hfs hks
 have hxs := HXs.out.2.1
 have hfs := HXs.out.2.2
 have hks := HXs.out.1
 have hlo1 : w.heap.size ≤ w1.heap.size := by omega
 have HOP : Hid (RowT w2_ (w1.heap.size) (w2_.heap.size) (((9, 1), .slice B1 m1 d1, m1)) (strs l1)) := Lib.hid (RowT.of hown2)
 clear hown2 hg2 hb2
 clear HOX
 go_upto_region 3 with fail
 refine wp_named (fun w2 hw => ?_)
 have hz2 : w2_.heap.size + 0 ≤ w2.heap.size := by rw [hw]; first | omega | (simp [World.setCell]; done) | (simp [World.setCell]; omega)
 have hzz2 : w.heap.size ≤ w2.heap.size := by omega
 replace HB : Hid (Below w.heap.size w w2) := by rw [Hid, hw]; exact (by ((repeat (first | ((with_reducible refine Below.alloc ?_ ?_ _); rotate_left 1; (focus (first | omega | (simp; done) | (simp; omega)))) | (with_reducible refine Below.drew ?_) | ((with_reducible refine Below.setCell ?_ ?_ _); rotate_left 1; (focus (first | omega | (simp; done) | (simp; omega)))))); exact HB.out))
 replace HOE : Hid (Rd w2 (0) (w.heap.size) (E) (ents es)) := by rw [Hid, hw]; (repeat (first | (with_reducible refine Rd.alloc ?_ _) | (with_reducible refine Rd.drew ?_) | ((with_reducible refine Rd.setCell ?_ ?_ _); rotate_left 1; (focus (first | omega | (simp; done) | (simp; omega)))))); exact HOE.out
 replace HOR : Hid (Rd w2 (0) (w.heap.size) (R) (rcps rs)) := by rw [Hid, hw]; (repeat (first | (with_reducible refine Rd.alloc ?_ _) | (with_reducible refine Rd.drew ?_) | ((with_reducible refine Rd.setCell ?_ ?_ _); rotate_left 1; (focus (first | omega | (simp; done) | (simp; omega)))))); exact HOR.out
 replace HOH : Hid (Rd w2 (0) (w.heap.size) (H) (hds hs)) := by rw [Hid, hw]; (repeat (first | (with_reducible refine Rd.alloc ?_ _) | (with_reducible refine Rd.drew ?_) | ((with_reducible refine Rd.setCell ?_ ?_ _); rotate_left 1; (focus (first | omega | (simp; done) | (simp; omega)))))); exact HOH.out
 replace HOY : Hid (Rd w2 (0) (w.heap.size) (A2) (strs l2)) := by rw [Hid, hw]; (repeat (first | (with_reducible refine Rd.alloc ?_ _) | (with_reducible refine Rd.drew ?_) | ((with_reducible refine Rd.setCell ?_ ?_ _); rotate_left 1; (focus (first | omega | (simp; done) | (simp; omega)))))); exact HOY.out
 replace HOP : Hid (RowT w2 (w1.heap.size) (w2_.heap.size) (((9, 1), .slice B1 m1 d1, m1)) (strs l1)) := by rw [Hid, hw]; (repeat (first | (with_reducible refine RowT.alloc ?_ _) | (with_reducible refine RowT.drew ?_) | ((with_reducible refine RowT.setCell ?_ ?_ _); rotate_left 1; (focus (first | omega | (simp; done) | (simp; omega)))))); exact HOP.out
 replace HXb : Hid (NewBox w2 (w.heap.size) [.int .i64 width, .slice E ne ce, .slice R nr cr, .slice H nh ch, .int .i64 z1, .slice A1 m1 c1, .int .i64 z2, .slice A2 m2 c2, .int .i64 h.num, .int .i64 h.size, .string h.root, .int .i64 h.taken, .string h.troot]) := by rw [Hid, hw]; (repeat (first | (with_reducible refine NewBox.alloc ?_ _) | (with_reducible refine NewBox.drew ?_) | ((with_reducible refine NewBox.setCell ?_ ?_ _); rotate_left 1; (focus (first | omega | (simp; done) | (simp; omega)))))); exact HXb.out
 clear hxb hfb hkb
 have hxb := HXb.out.2.1
 have hfb := HXb.out.2.2
 have hkb := HXb.out.1
 replace HXq : Hid (NewBox w2 (w.heap.size + 1) [.int .i64 0, .slice none 0 0, .slice none 0 0, .slice none 0 0, .int .i64 0, .slice none 0 0, .int .i64 0, .slice none 0 0, .int .i64 0, .int .i64 0, .string ⟨#[]⟩, .int .i64 0, .string ⟨#[]⟩]) := by rw [Hid, hw]; (repeat (first | (with_reducible refine NewBox.alloc ?_ _) | (with_reducible refine NewBox.drew ?_) | ((with_reducible refine NewBox.setCell ?_ ?_ _); rotate_left 1; (focus (first | omega | (simp; done) | (simp; omega)))))); exact HXq.out
 clear hxq hfq hkq
 have hxq := HXq.out.2.1
 have hfq := HXq.out.2.2
 have hkq := HXq.out.1
 replace HXs : Hid (NewBox w2 (w.heap.size + 2) [.int .i64 z1, .slice B1 m1 d1, .int .i64 z2, .slice A2 m2 c2, .int .i64 h.num, .int .i64 h.size, .string h.root, .int .i64 h.taken, .string h.troot]) := by rw [Hid, hw]; apply NewBox.cast; (focus ((repeat (first | (with_reducible apply NewBox.alloc) | (with_reducible apply NewBox.drew) | (with_reducible apply NewBox.set1) | ((with_reducible apply NewBox.far); (focus (first | omega | (simp; done) | (simp; omega)))))); exact HXs.out)); rfl
 clear hxs hfs hks
 have hxs := HXs.out.2.1
 have hfs := HXs.out.2.2
 have hks := HXs.out.1
 clear hw
 have hlo2 : w2_.heap.size ≤ w2.heap.size := by omega
 obtain ⟨p2, hp2, hp2'⟩ : ∃ n, n ≤ w2.heap.size ∧ w2.heap.size ≤ n := ⟨_, Nat.le_refl _, Nat.le_refl _⟩
 go_wp2_with (at_builtin; refine appStr rfl _ _ rfl w2.heap.size _ 0 [] rfl (row_made0 w2 _ _) A2 m2 c2 _ _ l2 rfl HM2.out (HOY.out.alloc _) HC2.out (by omega) (by simp) ?_)
 intro v3 w3_ hown3 hg3
 have hb3 := made_only hg3
 try simp only [Nat.zero_add, List.nil_append] at hown3
 obtain ⟨B2, d2, rfl, _, _, _⟩ := ownsRow_slice hown3
 have hzw3_ : w2.heap.size ≤ w3_.heap.size := hb3.size
 have hzzw3_ : w.heap.size ≤ w3_.heap.size := by omega
 replace HB := Lib.hid (below_then HB.out hb3 HB.out.size)
 replace HOE := Lib.hid (HOE.out.below hb3)
 replace HOR := Lib.hid (HOR.out.below hb3)
 replace HOH := Lib.hid (HOH.out.below hb3)
 replace HOY := Lib.hid (HOY.out.below hb3)
 replace HOP := Lib.hid (HOP.out.below hb3)
 replace HXb := Lib.hid (HXb.out.below hb3)
 clear hxb hfb hkb
 have hxb := HXb.out.2.1
 have hfb := HXb.out.2.2
 have hkb := HXb.out.1
 replace HXq := Lib.hid (HXq.out.below hb3)
 clear hxq hfq hkq
 have hxq := HXq.out.2.1
 have hfq := HXq.out.2.2
 have hkq := HXq.out.1
 replace HXs := Lib.hid (HXs.out.below hb3)
 clear hxs hfs hks
 have hxs := HXs.out.2.1
 have hfs := HXs.out.2.2
 have hks := HXs.out.1
 have HOQ : Hid (RowT w3_ (p2) (w3_.heap.size) (((9, 1), .slice B2 m2 d2, m2)) (strs l2)) := Lib.hid ((RowT.of hown3).mono hp2 (Nat.le_refl _))
 clear hown3 hg3 hb3
 clear HOY
 go_upto_region 4 with fail
 refine wp_named (fun w3 hw => ?_)
 have hz3 : w3_.heap.size + 0 ≤ w3.heap.size := by rw [hw]; first | omega | (simp [World.setCell]; done) | (simp [World.setCell]; omega)
 have hzz3 : w.heap.size ≤ w3.heap.size := by omega
 replace HB : Hid (Below w.heap.size w w3) := by rw [Hid, hw]; exact (by ((repeat (first | ((with_reducible refine Below.alloc ?_ ?_ _); rotate_left 1; (focus (first | omega | (simp; done) | (simp; omega)))) | (with_reducible refine Below.drew ?_) | ((with_reducible refine Below.setCell ?_ ?_ _); rotate_left 1; (focus (first | omega | (simp; done) | (simp; omega)))))); exact HB.out))
 replace HOE : Hid (Rd w3 (0) (w.heap.size) (E) (ents es)) := by rw [Hid, hw]; (repeat (first | (with_reducible refine Rd.alloc ?_ _) | (with_reducible refine Rd.drew ?_) | ((with_reducible refine Rd.setCell ?_ ?_ _); rotate_left 1; (focus (first | omega | (simp; done) | (simp; omega)))))); exact HOE.out
 replace HOR : Hid (Rd w3 (0) (w.heap.size) (R) (rcps rs)) := by rw [Hid, hw]; (repeat (first | (with_reducible refine Rd.alloc ?_ _) | (with_reducible refine Rd.drew ?_) | ((with_reducible refine Rd.setCell ?_ ?_ _); rotate_left 1; (focus (first | omega | (simp; done) | (simp; omega)))))); exact HOR.out
 replace HOH : Hid (Rd w3 (0) (w.heap.size) (H) (hds hs)) := by rw [Hid, hw]; (repeat (first | (with_reducible refine Rd.alloc ?_ _) | (with_reducible refine Rd.drew ?_) | ((with_reducible refine Rd.setCell ?_ ?_ _); rotate_left 1; (focus (first | omega | (simp; done) | (simp; omega)))))); exact HOH.out
 replace HOP : Hid (RowT w3 (w1.heap.size) (w2_.heap.size) (((9, 1), .slice B1 m1 d1, m1)) (strs l1)) := by rw [Hid, hw]; (repeat (first | (with_reducible refine RowT.alloc ?_ _) | (with_reducible refine RowT.drew ?_) | ((with_reducible refine RowT.setCell ?_ ?_ _); rotate_left 1; (focus (first | omega | (simp; done) | (simp; omega)))))); exact HOP.out
 replace HOQ : Hid (RowT w3 (p2) (w3_.heap.size) (((9, 1), .slice B2 m2 d2, m2)) (strs l2)) := by rw [Hid, hw]; (repeat (first | (with_reducible refine RowT.alloc ?_ _) | (with_reducible refine RowT.drew ?_) | ((with_reducible refine RowT.setCell ?_ ?_ _); rotate_left 1; (focus (first | omega | (simp; done) | (simp; omega)))))); exact HOQ.out
 replace HXb : Hid (NewBox w3 (w.heap.size) [.int .i64 width, .slice E ne ce, .slice R nr cr, .slice H nh ch, .int .i64 z1, .slice A1 m1 c1, .int .i64 z2, .slice A2 m2 c2, .int .i64 h.num, .int .i64 h.size, .string h.root, .int .i64 h.taken, .string h.troot]) := by rw [Hid, hw]; (repeat (first | (with_reducible refine NewBox.alloc ?_ _) | (with_reducible refine NewBox.drew ?_) | ((with_reducible refine NewBox.setCell ?_ ?_ _); rotate_left 1; (focus (first | omega | (simp; done) | (simp; omega)))))); exact HXb.out
 clear hxb hfb hkb
 have hxb := HXb.out.2.1
 have hfb := HXb.out.2.2
 have hkb := HXb.out.1
 replace HXq : Hid (NewBox w3 (w.heap.size + 1) [.int .i64 0, .slice none 0 0, .slice none 0 0, .slice none 0 0, .int .i64 0, .slice none 0 0, .int .i64 0, .slice none 0 0, .int .i64 0, .int .i64 0, .string ⟨#[]⟩, .int .i64 0, .string ⟨#[]⟩]) := by rw [Hid, hw]; (repeat (first | (with_reducible refine NewBox.alloc ?_ _) | (with_reducible refine NewBox.drew ?_) | ((with_reducible refine NewBox.setCell ?_ ?_ _); rotate_left 1; (focus (first | omega | (simp; done) | (simp; omega)))))); exact HXq.out
 clear hxq hfq hkq
 have hxq := HXq.out.2.1
 have hfq := HXq.out.2.2
 have hkq := HXq.out.1
 replace HXs : Hid (NewBox w3 (w.heap.size + 2) [.int .i64 z1, .slice B1 m1 d1, .int .i64 z2, .slice B2 m2 d2, .int .i64 h.num, .int .i64 h.size, .string h.root, .int .i64 h.taken, .string h.troot]) := by rw [Hid, hw]; apply NewBox.cast; (focus ((repeat (first | (with_reducible apply NewBox.alloc) | (with_reducible apply NewBox.drew) | (with_reducible apply NewBox.set1) | ((with_reducible apply NewBox.far); (focus (first | omega | (simp; done) | (simp; omega)))))); exact HXs.out)); rfl
 clear hxs hfs hks
 have hxs := HXs.out.2.1
 have hfs := HXs.out.2.2
 have hks := HXs.out.1
 clear hw
 obtain ⟨F, HF⟩ : ∃ F : Facts, Hid (F = fun iq xq tqs dsq uq => match iq with
  | 0 => xq.v = .pointer (some ⟨(w.heap.size), 0, none⟩)
  | 1 => xq.v = .int .i64 width
  | 2 => xq.v = .slice (some ⟨xq.s, 0, none⟩) 0 0 ∧ RowIn (inG xq []) uq 55 5 (.slice (some ⟨xq.s, 0, none⟩) 0 0) 0 []
  | 3 => xq.v = .pointer (some ⟨(w.heap.size), 1, none⟩)
  | 4 => xq.v = .pointer (some ⟨(w.heap.size), 1, none⟩)
  | 5 => xq.v = .slice E ne ce
  | 6 => (match tqs, dsq with | [tq0], [] => ∃ (E3 : Option Addr) (e3 : Nat), xq.v = .slice E3 ne e3 ∧ RowIn (inG xq [tq0]) uq 55 5 (.slice E3 ne e3) (ne) (ents es) | _, _ => False)
  | 7 => (match tqs, dsq with | [], [yq0] => ∃ (E3 : Option Addr) (e3 : Nat), yq0.v = .slice E3 ne e3 ∧ xq.v = .agg #[.slice E3 ne e3] | _, _ => False)
  | 8 => xq.v = .slice (some ⟨xq.s, 0, none⟩) 0 0 ∧ RowIn (inG xq []) uq 57 3 (.slice (some ⟨xq.s, 0, none⟩) 0 0) 0 []
  | 9 => xq.v = .pointer (some ⟨(w.heap.size), 2, none⟩)
  | 10 => xq.v = .slice R nr cr
  | 11 => (match tqs, dsq with | [tq0], [] => ∃ (R3 : Option Addr) (r3 : Nat), xq.v = .slice R3 nr r3 ∧ RowIn (inG xq [tq0]) uq 57 3 (.slice R3 nr r3) (nr) (rcps rs) | _, _ => False)
  | 12 => xq.v = .slice (some ⟨xq.s, 0, none⟩) 0 0 ∧ RowIn (inG xq []) uq 48 5 (.slice (some ⟨xq.s, 0, none⟩) 0 0) 0 []
  | 13 => xq.v = .pointer (some ⟨(w.heap.size), 3, none⟩)
  | 14 => xq.v = .slice H nh ch
  | 15 => (match tqs, dsq with | [tq0], [] => ∃ (H3 : Option Addr) (h3 : Nat), xq.v = .slice H3 nh h3 ∧ RowIn (inG xq [tq0]) uq 48 5 (.slice H3 nh h3) (nh) (hds hs) | _, _ => False)
  | 16 => xq.v = .agg #[.int .i64 z1, .slice B1 m1 d1, .int .i64 z2, .slice B2 m2 d2, .int .i64 h.num, .int .i64 h.size, .string h.root, .int .i64 h.taken, .string h.troot]
  | 17 => (match tqs, dsq with | [], [yq0, yq1, yq2] => ∃ (E3 : Option Addr) (e3 : Nat), yq0.v = .slice E3 ne e3 ∧ ∃ (R3 : Option Addr) (r3 : Nat), yq1.v = .slice R3 nr r3 ∧ ∃ (H3 : Option Addr) (h3 : Nat), yq2.v = .slice H3 nh h3 ∧ xq.v = .agg #[.int .i64 width, .slice E3 ne e3, .slice R3 nr r3, .slice H3 nh h3, .int .i64 z1, .slice B1 m1 d1, .int .i64 z2, .slice B2 m2 d2, .int .i64 h.num, .int .i64 h.size, .string h.root, .int .i64 h.taken, .string h.troot] | _, _ => False)
  | 18 => (match tqs, dsq with | [], [yq0, yq1, yq2] => ∃ (E3 : Option Addr) (e3 : Nat), yq0.v = .slice E3 ne e3 ∧ ∃ (R3 : Option Addr) (r3 : Nat), yq1.v = .slice R3 nr r3 ∧ ∃ (H3 : Option Addr) (h3 : Nat), yq2.v = .slice H3 nh h3 ∧ NewBox uq (w.heap.size + 1) [.int .i64 width, .slice E3 ne e3, .slice R3 nr r3, .slice H3 nh h3, .int .i64 z1, .slice B1 m1 d1, .int .i64 z2, .slice B2 m2 d2, .int .i64 h.num, .int .i64 h.size, .string h.root, .int .i64 h.taken, .string h.troot] | _, _ => False)
  | _ => False) := ⟨_, rfl⟩
 refine wp_region_facts [[], [], [], [], [], [], [], [6], [], [], [], [], [], [], [], [], [], [6, 11, 15], [6, 11, 15]] [[], [], [], [], [], [], [2], [], [], [], [], [8], [], [], [], [12], [], [], []] [some 20, some 21, some 22, some 23, some 24, some 25, some 26, some 27, some 28, some 29, some 30, some 31, some 32, some 33, some 34, some 35, some 36, some 37, none] (some 18) (w.heap.size + 1) (w.heap.size + 1 + 1) (.inr (by omega)) F (by kernel_rfl) (by kernel_rfl) (by kernel_rfl) ?_ ⟨?_, ?_, ?_, ?_, ?_, ?_, ?_, ?_, ?_, ?_, ?_, ?_, ?_, ?_, ?_, ?_, ?_, ?_, ?_, trivial⟩ ?_
 ·rw [HF.out]; intro iq xq tqs dsq uq u' hi hf hs hW hx hbk
  have kx : ∀ b, xq.s ≤ b → b < xq.e → u'.heap[b]? = uq.heap[b]? := fun b h1 h2 => hbk b (.inr (.inl ⟨h1, h2⟩))
  have kt : ∀ t ∈ tqs, ∀ b, t.s ≤ b → b < t.e → u'.heap[b]? = uq.heap[b]? := fun t ht b h1 h2 => hbk b (.inr (.inr ⟨t, ht, h1, h2⟩))
  match iq with
  | 0 => exact hf
  | 1 => exact hf
  | 2 => exact ⟨hf.1, hf.2.keep (fun k hk => hk.elim (fun h => kx k h.1 h.2) (fun ⟨t, ht, _⟩ => by cases ht))⟩
  | 3 => exact hf
  | 4 => exact hf
  | 5 => exact hf
  | 6 => match tqs, dsq, hf with | [tq0], [], hf => obtain ⟨E3, e3, hv, p0⟩ := hf; exact ⟨E3, e3, hv, p0.keep (fun k hk => hk.elim (fun h => kx k h.1 h.2) (fun ⟨t, ht, h⟩ => kt t ht k h.1 h.2))⟩
  | 7 => exact hf
  | 8 => exact ⟨hf.1, hf.2.keep (fun k hk => hk.elim (fun h => kx k h.1 h.2) (fun ⟨t, ht, _⟩ => by cases ht))⟩
  | 9 => exact hf
  | 10 => exact hf
  | 11 => match tqs, dsq, hf with | [tq0], [], hf => obtain ⟨R3, r3, hv, p0⟩ := hf; exact ⟨R3, r3, hv, p0.keep (fun k hk => hk.elim (fun h => kx k h.1 h.2) (fun ⟨t, ht, h⟩ => kt t ht k h.1 h.2))⟩
  | 12 => exact ⟨hf.1, hf.2.keep (fun k hk => hk.elim (fun h => kx k h.1 h.2) (fun ⟨t, ht, _⟩ => by cases ht))⟩
  | 13 => exact hf
  | 14 => exact hf
  | 15 => match tqs, dsq, hf with | [tq0], [], hf => obtain ⟨H3, h3, hv, p0⟩ := hf; exact ⟨H3, h3, hv, p0.keep (fun k hk => hk.elim (fun h => kx k h.1 h.2) (fun ⟨t, ht, h⟩ => kt t ht k h.1 h.2))⟩
  | 16 => exact hf
  | 17 => exact hf
  | 18 => match tqs, dsq, hf with | [], [yq0, yq1, yq2], hf => obtain ⟨E3, e3, hvr6, R3, r3, hvr11, H3, h3, hvr15, hb⟩ := hf; exact ⟨E3, e3, hvr6, R3, r3, hvr11, H3, h3, hvr15, hb.keep hs (hbk _ (.inl ⟨hkq, .inr (.inr rfl)⟩))⟩
 ·intro gh ρ u hc hf1 hg1 hd h0 hb he ha hF
  have r1 : ρ (.tmp 1) = .pointer (some ⟨w.heap.size, 0, none⟩) := (h0 1 (by decide +kernel)).trans rfl
  clear  hd h0 he ha hF
  go_simp
  rw [HF.out]
  exact ⟨OnlyL.refl _ _, rfl⟩
 ·intro gh ρ u hc hf1 hg1 hd h0 hb he ha hF
  first | (replace hb : Below w3.heap.size w3 u := hb.drew.below (by decide +kernel)) | (replace hb : Only (w.heap.size + 1) (w.heap.size + 1 + 1) w3 u := hb.drew.only)
  have hbz : w3.heap.size ≤ u.heap.size := hb.size
  have r20 : ρ (.tmp 20) = .pointer (some ⟨(w.heap.size), 0, none⟩) := by have h := hF 0 (by decide +kernel) (by decide +kernel); rw [HF.out] at h; exact (hd 0 (by decide +kernel) 20 (by kernel_rfl)).trans h
  have q_b : ∀ o, u.cell? ⟨w.heap.size, o, none⟩ = [.int .i64 width, .slice E ne ce, .slice R nr cr, .slice H nh ch, .int .i64 z1, .slice A1 m1 c1, .int .i64 z2, .slice A2 m2 c2, .int .i64 h.num, .int .i64 h.size, .string h.root, .int .i64 h.taken, .string h.troot][o]? := by first | exact (HXb.out.below hb).2.1 | exact (HXb.out.only hb (by omega)).2.1
  have k_b : w.heap.size < u.heap.size := by have := HXb.out.1; omega
  have q_s : ∀ o, u.cell? ⟨w.heap.size + 2, o, none⟩ = [.int .i64 z1, .slice B1 m1 d1, .int .i64 z2, .slice B2 m2 d2, .int .i64 h.num, .int .i64 h.size, .string h.root, .int .i64 h.taken, .string h.troot][o]? := by first | exact (HXs.out.below hb).2.1 | exact (HXs.out.only hb (by omega)).2.1
  have k_s : w.heap.size + 2 < u.heap.size := by have := HXs.out.1; omega
  clear  hd h0 he ha hF
  go_simp
  rw [HF.out]
  exact ⟨OnlyL.refl _ _, rfl⟩
 ·intro gh ρ u hc hf1 hg1 hd h0 hb he ha hF
  first | (replace hb : Below w3.heap.size w3 u := hb.drew.below (by decide +kernel)) | (replace hb : Only (w.heap.size + 1) (w.heap.size + 1 + 1) w3 u := hb.drew.only)
  have hbz : w3.heap.size ≤ u.heap.size := hb.size
  clear  hd h0 he ha hF
  go_simp
  rw [HF.out]
  exact ⟨OnlyL.of_below ((Below.refl _ _).alloc (Nat.le_refl _) _), rfl, RowIn.made _ _ _ _ (.inl ⟨Nat.le_refl _, by simp⟩)⟩
 ·intro gh ρ u hc hf1 hg1 hd h0 hb he ha hF
  have r1 : ρ (.tmp 1) = .pointer (some ⟨w.heap.size, 0, none⟩) := (h0 1 (by decide +kernel)).trans rfl
  clear  hd h0 he ha hF
  go_simp
  rw [HF.out]
  exact ⟨OnlyL.refl _ _, rfl⟩
 ·intro gh ρ u hc hf1 hg1 hd h0 hb he ha hF
  have r23 : ρ (.tmp 23) = .pointer (some ⟨(w.heap.size), 1, none⟩) := by have h := hF 3 (by decide +kernel) (by decide +kernel); rw [HF.out] at h; exact (hd 3 (by decide +kernel) 23 (by kernel_rfl)).trans h
  clear  hd h0 he ha hF
  go_simp
  rw [HF.out]
  exact ⟨OnlyL.refl _ _, rfl⟩
 ·intro gh ρ u hc hf1 hg1 hd h0 hb he ha hF
  first | (replace hb : Below w3.heap.size w3 u := hb.drew.below (by decide +kernel)) | (replace hb : Only (w.heap.size + 1) (w.heap.size + 1 + 1) w3 u := hb.drew.only)
  have hbz : w3.heap.size ≤ u.heap.size := hb.size
  have r24 : ρ (.tmp 24) = .pointer (some ⟨(w.heap.size), 1, none⟩) := by have h := hF 4 (by decide +kernel) (by decide +kernel); rw [HF.out] at h; exact (hd 4 (by decide +kernel) 24 (by kernel_rfl)).trans h
  have q_b : ∀ o, u.cell? ⟨w.heap.size, o, none⟩ = [.int .i64 width, .slice E ne ce, .slice R nr cr, .slice H nh ch, .int .i64 z1, .slice A1 m1 c1, .int .i64 z2, .slice A2 m2 c2, .int .i64 h.num, .int .i64 h.size, .string h.root, .int .i64 h.taken, .string h.troot][o]? := by first | exact (HXb.out.below hb).2.1 | exact (HXb.out.only hb (by omega)).2.1
  have k_b : w.heap.size < u.heap.size := by have := HXb.out.1; omega
  have q_s : ∀ o, u.cell? ⟨w.heap.size + 2, o, none⟩ = [.int .i64 z1, .slice B1 m1 d1, .int .i64 z2, .slice B2 m2 d2, .int .i64 h.num, .int .i64 h.size, .string h.root, .int .i64 h.taken, .string h.troot][o]? := by first | exact (HXs.out.below hb).2.1 | exact (HXs.out.only hb (by omega)).2.1
  have k_s : w.heap.size + 2 < u.heap.size := by have := HXs.out.1; omega
  clear  hd h0 he ha hF
  go_simp
  rw [HF.out]
  exact ⟨OnlyL.refl _ _, rfl⟩
 ·intro gh ρ u hc hf1 hg1 hd h0 hb he ha hF
  first | (replace hb : Below w3.heap.size w3 u := hb.drew.below (by decide +kernel)) | (replace hb : Only (w.heap.size + 1) (w.heap.size + 1 + 1) w3 u := hb.drew.only)
  have hbz : w3.heap.size ≤ u.heap.size := hb.size
  have f2 : (gh 2).v = .slice (some ⟨(gh 2).s, 0, none⟩) 0 0 ∧ RowIn (inG (gh 2) []) u 55 5 (.slice (some ⟨(gh 2).s, 0, none⟩) 0 0) 0 [] := by have h := hF 2 (by decide +kernel) (by decide +kernel); rw [HF.out] at h; exact h
  obtain ⟨hv2, hrow2⟩ := f2
  have r22 : ρ (.tmp 22) = .slice (some ⟨(gh 2).s, 0, none⟩) 0 0 := (hd 2 (by decide +kernel) 22 (by kernel_rfl)).trans hv2
  have r25 : ρ (.tmp 25) = .slice E ne ce := by have h := hF 5 (by decide +kernel) (by decide +kernel); rw [HF.out] at h; exact (hd 5 (by decide +kernel) 25 (by kernel_rfl)).trans h
  clear hv2 hd h0 he ha hF
  refine gappEnt _ _ rfl _ (0) ([]) r22 hrow2 E ne ce _ _ es r25 HNE.out (HOE.out.below hb) HCE.out (by omega) ?_
  intro A' c' u' hrow hlt hg
  rw [HF.out]
  have hS : ∀ k, inG (gh 2) [] k → ∃ z ∈ ([2] : List Nat), (gh z).s ≤ k ∧ k < (gh z).e := by
   rintro k (h | ⟨t, ht, h⟩)
   ·exact ⟨2, by decide, h⟩
   ·cases ht
  refine ⟨⟨hg.os, hg.tape, hg.output, hg.size, fun k hk hd' _ => hg.block k hk (fun e => ?_)⟩, A', c', by rw [Nat.zero_add], ?_⟩
  ·obtain ⟨z, hz, h1, h2⟩ := hS k (hrow2.at_ k e.symm); have := hd' (gh z) (List.mem_map.2 ⟨z, hz, rfl⟩); omega
  ·rw [Nat.zero_add, List.nil_append] at hrow; rw [Nat.zero_add] at hlt; exact RowIn.widen hrow (fun k hk => .inr (let ⟨z, hz, h⟩ := hS k hk; ⟨gh z, List.mem_map.2 ⟨z, hz, rfl⟩, h⟩)) (fun e => .inl ⟨Nat.le_refl _, hlt _ e⟩)
 ·intro gh ρ u hc hf1 hg1 hd h0 hb he ha hF
  have f6 : ∃ (E3 : Option Addr) (e3 : Nat), (gh 6).v = .slice E3 ne e3 ∧ RowIn (inG (gh 6) [(gh 2)]) u 55 5 (.slice E3 ne e3) (ne) (ents es) := by have h := hF 6 (by decide +kernel) (by decide +kernel); rw [HF.out] at h; exact h
  obtain ⟨E3, e3, hv6, hrow6⟩ := f6
  have hrt6 := hv6
  have r26 : ρ (.tmp 26) = .slice E3 ne e3 := (hd 6 (by decide +kernel) 26 (by kernel_rfl)).trans hv6
  have HRT6 := Lib.hid hrt6
  clear hv6 hrt6 hd h0 he ha hF
  go_simp
  rw [HF.out]
  exact ⟨OnlyL.refl _ _, E3, e3, HRT6.out, rfl⟩
 ·intro gh ρ u hc hf1 hg1 hd h0 hb he ha hF
  first | (replace hb : Below w3.heap.size w3 u := hb.drew.below (by decide +kernel)) | (replace hb : Only (w.heap.size + 1) (w.heap.size + 1 + 1) w3 u := hb.drew.only)
  have hbz : w3.heap.size ≤ u.heap.size := hb.size
  clear  hd h0 he ha hF
  go_simp
  rw [HF.out]
  exact ⟨OnlyL.of_below ((Below.refl _ _).alloc (Nat.le_refl _) _), rfl, RowIn.made _ _ _ _ (.inl ⟨Nat.le_refl _, by simp⟩)⟩
 ·intro gh ρ u hc hf1 hg1 hd h0 hb he ha hF
  have r1 : ρ (.tmp 1) = .pointer (some ⟨w.heap.size, 0, none⟩) := (h0 1 (by decide +kernel)).trans rfl
  clear  hd h0 he ha hF
  go_simp
  rw [HF.out]
  exact ⟨OnlyL.refl _ _, rfl⟩
 ·intro gh ρ u hc hf1 hg1 hd h0 hb he ha hF
  first | (replace hb : Below w3.heap.size w3 u := hb.drew.below (by decide +kernel)) | (replace hb : Only (w.heap.size + 1) (w.heap.size + 1 + 1) w3 u := hb.drew.only)
  have hbz : w3.heap.size ≤ u.heap.size := hb.size
  have r29 : ρ (.tmp 29) = .pointer (some ⟨(w.heap.size), 2, none⟩) := by have h := hF 9 (by decide +kernel) (by decide +kernel); rw [HF.out] at h; exact (hd 9 (by decide +kernel) 29 (by kernel_rfl)).trans h
  have q_b : ∀ o, u.cell? ⟨w.heap.size, o, none⟩ = [.int .i64 width, .slice E ne ce, .slice R nr cr, .slice H nh ch, .int .i64 z1, .slice A1 m1 c1, .int .i64 z2, .slice A2 m2 c2, .int .i64 h.num, .int .i64 h.size, .string h.root, .int .i64 h.taken, .string h.troot][o]? := by first | exact (HXb.out.below hb).2.1 | exact (HXb.out.only hb (by omega)).2.1
  have k_b : w.heap.size < u.heap.size := by have := HXb.out.1; omega
  have q_s : ∀ o, u.cell? ⟨w.heap.size + 2, o, none⟩ = [.int .i64 z1, .slice B1 m1 d1, .int .i64 z2, .slice B2 m2 d2, .int .i64 h.num, .int .i64 h.size, .string h.root, .int .i64 h.taken, .string h.troot][o]? := by first | exact (HXs.out.below hb).2.1 | exact (HXs.out.only hb (by omega)).2.1
  have k_s : w.heap.size + 2 < u.heap.size := by have := HXs.out.1; omega
  clear  hd h0 he ha hF
  go_simp
  rw [HF.out]
  exact ⟨OnlyL.refl _ _, rfl⟩
 ·intro gh ρ u hc hf1 hg1 hd h0 hb he ha hF
  first | (replace hb : Below w3.heap.size w3 u := hb.drew.below (by decide +kernel)) | (replace hb : Only (w.heap.size + 1) (w.heap.size + 1 + 1) w3 u := hb.drew.only)
  have hbz : w3.heap.size ≤ u.heap.size := hb.size
  have f8 : (gh 8).v = .slice (some ⟨(gh 8).s, 0, none⟩) 0 0 ∧ RowIn (inG (gh 8) []) u 57 3 (.slice (some ⟨(gh 8).s, 0, none⟩) 0 0) 0 [] := by have h := hF 8 (by decide +kernel) (by decide +kernel); rw [HF.out] at h; exact h
  obtain ⟨hv8, hrow8⟩ := f8
  have r28 : ρ (.tmp 28) = .slice (some ⟨(gh 8).s, 0, none⟩) 0 0 := (hd 8 (by decide +kernel) 28 (by kernel_rfl)).trans hv8
  have r30 : ρ (.tmp 30) = .slice R nr cr := by have h := hF 10 (by decide +kernel) (by decide +kernel); rw [HF.out] at h; exact (hd 10 (by decide +kernel) 30 (by kernel_rfl)).trans h
  clear hv8 hd h0 he ha hF
  refine gappRcp _ _ rfl _ (0) ([]) r28 hrow8 R nr cr _ _ rs r30 HNR.out (HOR.out.below hb) HCR.out (by omega) ?_
  intro A' c' u' hrow hlt hg
  rw [HF.out]
  have hS : ∀ k, inG (gh 8) [] k → ∃ z ∈ ([8] : List Nat), (gh z).s ≤ k ∧ k < (gh z).e := by
   rintro k (h | ⟨t, ht, h⟩)
   ·exact ⟨8, by decide, h⟩
   ·cases ht
  refine ⟨⟨hg.os, hg.tape, hg.output, hg.size, fun k hk hd' _ => hg.block k hk (fun e => ?_)⟩, A', c', by rw [Nat.zero_add], ?_⟩
  ·obtain ⟨z, hz, h1, h2⟩ := hS k (hrow8.at_ k e.symm); have := hd' (gh z) (List.mem_map.2 ⟨z, hz, rfl⟩); omega
  ·rw [Nat.zero_add, List.nil_append] at hrow; rw [Nat.zero_add] at hlt; exact RowIn.widen hrow (fun k hk => .inr (let ⟨z, hz, h⟩ := hS k hk; ⟨gh z, List.mem_map.2 ⟨z, hz, rfl⟩, h⟩)) (fun e => .inl ⟨Nat.le_refl _, hlt _ e⟩)
 ·intro gh ρ u hc hf1 hg1 hd h0 hb he ha hF
  first | (replace hb : Below w3.heap.size w3 u := hb.drew.below (by decide +kernel)) | (replace hb : Only (w.heap.size + 1) (w.heap.size + 1 + 1) w3 u := hb.drew.only)
  have hbz : w3.heap.size ≤ u.heap.size := hb.size
  clear  hd h0 he ha hF
  go_simp
  rw [HF.out]
  exact ⟨OnlyL.of_below ((Below.refl _ _).alloc (Nat.le_refl _) _), rfl, RowIn.made _ _ _ _ (.inl ⟨Nat.le_refl _, by simp⟩)⟩
 ·intro gh ρ u hc hf1 hg1 hd h0 hb he ha hF
  have r1 : ρ (.tmp 1) = .pointer (some ⟨w.heap.size, 0, none⟩) := (h0 1 (by decide +kernel)).trans rfl
  clear  hd h0 he ha hF
  go_simp
  rw [HF.out]
  exact ⟨OnlyL.refl _ _, rfl⟩
 ·intro gh ρ u hc hf1 hg1 hd h0 hb he ha hF
  first | (replace hb : Below w3.heap.size w3 u := hb.drew.below (by decide +kernel)) | (replace hb : Only (w.heap.size + 1) (w.heap.size + 1 + 1) w3 u := hb.drew.only)
  have hbz : w3.heap.size ≤ u.heap.size := hb.size
  have r33 : ρ (.tmp 33) = .pointer (some ⟨(w.heap.size), 3, none⟩) := by have h := hF 13 (by decide +kernel) (by decide +kernel); rw [HF.out] at h; exact (hd 13 (by decide +kernel) 33 (by kernel_rfl)).trans h
  have q_b : ∀ o, u.cell? ⟨w.heap.size, o, none⟩ = [.int .i64 width, .slice E ne ce, .slice R nr cr, .slice H nh ch, .int .i64 z1, .slice A1 m1 c1, .int .i64 z2, .slice A2 m2 c2, .int .i64 h.num, .int .i64 h.size, .string h.root, .int .i64 h.taken, .string h.troot][o]? := by first | exact (HXb.out.below hb).2.1 | exact (HXb.out.only hb (by omega)).2.1
  have k_b : w.heap.size < u.heap.size := by have := HXb.out.1; omega
  have q_s : ∀ o, u.cell? ⟨w.heap.size + 2, o, none⟩ = [.int .i64 z1, .slice B1 m1 d1, .int .i64 z2, .slice B2 m2 d2, .int .i64 h.num, .int .i64 h.size, .string h.root, .int .i64 h.taken, .string h.troot][o]? := by first | exact (HXs.out.below hb).2.1 | exact (HXs.out.only hb (by omega)).2.1
  have k_s : w.heap.size + 2 < u.heap.size := by have := HXs.out.1; omega
  clear  hd h0 he ha hF
  go_simp
  rw [HF.out]
  exact ⟨OnlyL.refl _ _, rfl⟩
 ·intro gh ρ u hc hf1 hg1 hd h0 hb he ha hF
  first | (replace hb : Below w3.heap.size w3 u := hb.drew.below (by decide +kernel)) | (replace hb : Only (w.heap.size + 1) (w.heap.size + 1 + 1) w3 u := hb.drew.only)
  have hbz : w3.heap.size ≤ u.heap.size := hb.size
  have f12 : (gh 12).v = .slice (some ⟨(gh 12).s, 0, none⟩) 0 0 ∧ RowIn (inG (gh 12) []) u 48 5 (.slice (some ⟨(gh 12).s, 0, none⟩) 0 0) 0 [] := by have h := hF 12 (by decide +kernel) (by decide +kernel); rw [HF.out] at h; exact h
  obtain ⟨hv12, hrow12⟩ := f12
  have r32 : ρ (.tmp 32) = .slice (some ⟨(gh 12).s, 0, none⟩) 0 0 := (hd 12 (by decide +kernel) 32 (by kernel_rfl)).trans hv12
  have r34 : ρ (.tmp 34) = .slice H nh ch := by have h := hF 14 (by decide +kernel) (by decide +kernel); rw [HF.out] at h; exact (hd 14 (by decide +kernel) 34 (by kernel_rfl)).trans h
  clear hv12 hd h0 he ha hF
  refine gappHd _ _ rfl _ (0) ([]) r32 hrow12 H nh ch _ _ hs r34 HNH.out (HOH.out.below hb) HCH.out (by omega) ?_
  intro A' c' u' hrow hlt hg
  rw [HF.out]
  have hS : ∀ k, inG (gh 12) [] k → ∃ z ∈ ([12] : List Nat), (gh z).s ≤ k ∧ k < (gh z).e := by
   rintro k (h | ⟨t, ht, h⟩)
   ·exact ⟨12, by decide, h⟩
   ·cases ht
  refine ⟨⟨hg.os, hg.tape, hg.output, hg.size, fun k hk hd' _ => hg.block k hk (fun e => ?_)⟩, A', c', by rw [Nat.zero_add], ?_⟩
  ·obtain ⟨z, hz, h1, h2⟩ := hS k (hrow12.at_ k e.symm); have := hd' (gh z) (List.mem_map.2 ⟨z, hz, rfl⟩); omega
  ·rw [Nat.zero_add, List.nil_append] at hrow; rw [Nat.zero_add] at hlt; exact RowIn.widen hrow (fun k hk => .inr (let ⟨z, hz, h⟩ := hS k hk; ⟨gh z, List.mem_map.2 ⟨z, hz, rfl⟩, h⟩)) (fun e => .inl ⟨Nat.le_refl _, hlt _ e⟩)
 ·intro gh ρ u hc hf1 hg1 hd h0 hb he ha hF
  first | (replace hb : Below w3.heap.size w3 u := hb.drew.below (by decide +kernel)) | (replace hb : Only (w.heap.size + 1) (w.heap.size + 1 + 1) w3 u := hb.drew.only)
  have hbz : w3.heap.size ≤ u.heap.size := hb.size
  have r3 : ρ (.tmp 3) = .pointer (some ⟨w.heap.size + 2, 0, none⟩) := (h0 3 (by decide +kernel)).trans rfl
  have q_b : ∀ o, u.cell? ⟨w.heap.size, o, none⟩ = [.int .i64 width, .slice E ne ce, .slice R nr cr, .slice H nh ch, .int .i64 z1, .slice A1 m1 c1, .int .i64 z2, .slice A2 m2 c2, .int .i64 h.num, .int .i64 h.size, .string h.root, .int .i64 h.taken, .string h.troot][o]? := by first | exact (HXb.out.below hb).2.1 | exact (HXb.out.only hb (by omega)).2.1
  have k_b : w.heap.size < u.heap.size := by have := HXb.out.1; omega
  have q_s : ∀ o, u.cell? ⟨w.heap.size + 2, o, none⟩ = [.int .i64 z1, .slice B1 m1 d1, .int .i64 z2, .slice B2 m2 d2, .int .i64 h.num, .int .i64 h.size, .string h.root, .int .i64 h.taken, .string h.troot][o]? := by first | exact (HXs.out.below hb).2.1 | exact (HXs.out.only hb (by omega)).2.1
  have k_s : w.heap.size + 2 < u.heap.size := by have := HXs.out.1; omega
  clear  hd h0 he ha hF
  go_simp
  rw [HF.out]
  exact ⟨OnlyL.refl _ _, rfl⟩
 ·intro gh ρ u hc hf1 hg1 hd h0 hb he ha hF
  have r21 : ρ (.tmp 21) = .int .i64 width := by have h := hF 1 (by decide +kernel) (by decide +kernel); rw [HF.out] at h; exact (hd 1 (by decide +kernel) 21 (by kernel_rfl)).trans h
  have f7 : ∃ (E3 : Option Addr) (e3 : Nat), (gh 6).v = .slice E3 ne e3 ∧ (gh 7).v = .agg #[.slice E3 ne e3] := by have h := hF 7 (by decide +kernel) (by decide +kernel); rw [HF.out] at h; exact h
  obtain ⟨E3, e3, hrt6, hv7⟩ := f7
  have r27 : ρ (.tmp 27) = .agg #[.slice E3 ne e3] := (hd 7 (by decide +kernel) 27 (by kernel_rfl)).trans hv7
  have f11 : ∃ (R3 : Option Addr) (r3 : Nat), (gh 11).v = .slice R3 nr r3 ∧ RowIn (inG (gh 11) [(gh 8)]) u 57 3 (.slice R3 nr r3) (nr) (rcps rs) := by have h := hF 11 (by decide +kernel) (by decide +kernel); rw [HF.out] at h; exact h
  obtain ⟨R3, r3, hv11, hrow11⟩ := f11
  have hrt11 := hv11
  have r31 : ρ (.tmp 31) = .slice R3 nr r3 := (hd 11 (by decide +kernel) 31 (by kernel_rfl)).trans hv11
  have f15 : ∃ (H3 : Option Addr) (h3 : Nat), (gh 15).v = .slice H3 nh h3 ∧ RowIn (inG (gh 15) [(gh 12)]) u 48 5 (.slice H3 nh h3) (nh) (hds hs) := by have h := hF 15 (by decide +kernel) (by decide +kernel); rw [HF.out] at h; exact h
  obtain ⟨H3, h3, hv15, hrow15⟩ := f15
  have hrt15 := hv15
  have r35 : ρ (.tmp 35) = .slice H3 nh h3 := (hd 15 (by decide +kernel) 35 (by kernel_rfl)).trans hv15
  have r36 : ρ (.tmp 36) = .agg #[.int .i64 z1, .slice B1 m1 d1, .int .i64 z2, .slice B2 m2 d2, .int .i64 h.num, .int .i64 h.size, .string h.root, .int .i64 h.taken, .string h.troot] := by have h := hF 16 (by decide +kernel) (by decide +kernel); rw [HF.out] at h; exact (hd 16 (by decide +kernel) 36 (by kernel_rfl)).trans h
  have HRT6 := Lib.hid hrt6
  have HRT11 := Lib.hid hrt11
  have HRT15 := Lib.hid hrt15
  clear hv7 hv11 hv15 hrt6 hrt11 hrt15 hd h0 he ha hF
  go_simp
  rw [HF.out]
  exact ⟨OnlyL.refl _ _, E3, e3, HRT6.out, R3, r3, HRT11.out, H3, h3, HRT15.out, rfl⟩
 ·intro gh ρ u hc hf1 hg1 hd h0 hb he ha hF
  first | (replace hb : Below w3.heap.size w3 u := hb.drew.below (by decide +kernel)) | (replace hb : Only (w.heap.size + 1) (w.heap.size + 1 + 1) w3 u := hb.drew.only)
  have hbz : w3.heap.size ≤ u.heap.size := hb.size
  have r2 : ρ (.tmp 2) = .pointer (some ⟨w.heap.size + 1, 0, none⟩) := (h0 2 (by decide +kernel)).trans rfl
  have f17 : ∃ (E3 : Option Addr) (e3 : Nat), (gh 6).v = .slice E3 ne e3 ∧ ∃ (R3 : Option Addr) (r3 : Nat), (gh 11).v = .slice R3 nr r3 ∧ ∃ (H3 : Option Addr) (h3 : Nat), (gh 15).v = .slice H3 nh h3 ∧ (gh 17).v = .agg #[.int .i64 width, .slice E3 ne e3, .slice R3 nr r3, .slice H3 nh h3, .int .i64 z1, .slice B1 m1 d1, .int .i64 z2, .slice B2 m2 d2, .int .i64 h.num, .int .i64 h.size, .string h.root, .int .i64 h.taken, .string h.troot] := by have h := hF 17 (by decide +kernel) (by decide +kernel); rw [HF.out] at h; exact h
  obtain ⟨E3, e3, hrt6, R3, r3, hrt11, H3, h3, hrt15, hv17⟩ := f17
  have r37 : ρ (.tmp 37) = .agg #[.int .i64 width, .slice E3 ne e3, .slice R3 nr r3, .slice H3 nh h3, .int .i64 z1, .slice B1 m1 d1, .int .i64 z2, .slice B2 m2 d2, .int .i64 h.num, .int .i64 h.size, .string h.root, .int .i64 h.taken, .string h.troot] := (hd 17 (by decide +kernel) 37 (by kernel_rfl)).trans hv17
  have HRT6 := Lib.hid hrt6
  have HRT11 := Lib.hid hrt11
  have HRT15 := Lib.hid hrt15
  obtain ⟨hzk, hzc, hzf⟩ := HXq.out.below hb
  clear hv17 hrt6 hrt11 hrt15 hd h0 he ha hF
  go_simp
  rw [HF.out]
  refine ⟨?_, E3, e3, HRT6.out, R3, r3, HRT11.out, H3, h3, HRT15.out, ?_⟩
  ·refine OnlyL.of_z (lo := w.heap.size + 1) (hi := w.heap.size + 1 + 1) ?_ rfl; refine Only.setCell ?_ (by exact Nat.le_refl _) (by exact Nat.lt_succ_self _) _; refine Only.setCell ?_ (by exact Nat.le_refl _) (by exact Nat.lt_succ_self _) _; refine Only.setCell ?_ (by exact Nat.le_refl _) (by exact Nat.lt_succ_self _) _; refine Only.setCell ?_ (by exact Nat.le_refl _) (by exact Nat.lt_succ_self _) _; refine Only.setCell ?_ (by exact Nat.le_refl _) (by exact Nat.lt_succ_self _) _; refine Only.setCell ?_ (by exact Nat.le_refl _) (by exact Nat.lt_succ_self _) _; refine Only.setCell ?_ (by exact Nat.le_refl _) (by exact Nat.lt_succ_self _) _; refine Only.setCell ?_ (by exact Nat.le_refl _) (by exact Nat.lt_succ_self _) _; refine Only.setCell ?_ (by exact Nat.le_refl _) (by exact Nat.lt_succ_self _) _; refine Only.setCell ?_ (by exact Nat.le_refl _) (by exact Nat.lt_succ_self _) _; refine Only.setCell ?_ (by exact Nat.le_refl _) (by exact Nat.lt_succ_self _) _; refine Only.setCell ?_ (by exact Nat.le_refl _) (by exact Nat.lt_succ_self _) _; refine Only.setCell ?_ (by exact Nat.le_refl _) (by exact Nat.lt_succ_self _) _; exact Only.refl _ _ _
  ·show NewBox _ (w.heap.size + 1) _
   exact ⟨by simpa [World.setCell] using hzk, fun o => by rcases o with _ | _ | _ | _ | _ | _ | _ | _ | _ | _ | _ | _ | _ | o <;> go_simp, fun o => by go_simp⟩
 intro gh w4 hB hE hA hF
 replace hB : Only (w.heap.size + 1) (w.heap.size + 1 + 1) w3 w4 := hB.only
 have f0 : (gh 0).v = .pointer (some ⟨(w.heap.size), 0, none⟩) := by have h := hF 0 (by decide +kernel) (by decide +kernel); rw [HF.out] at h; exact h
 have f1 : (gh 1).v = .int .i64 width := by have h := hF 1 (by decide +kernel) (by decide +kernel); rw [HF.out] at h; exact h
 have f3 : (gh 3).v = .pointer (some ⟨(w.heap.size), 1, none⟩) := by have h := hF 3 (by decide +kernel) (by decide +kernel); rw [HF.out] at h; exact h
 have f4 : (gh 4).v = .pointer (some ⟨(w.heap.size), 1, none⟩) := by have h := hF 4 (by decide +kernel) (by decide +kernel); rw [HF.out] at h; exact h
 have f5 : (gh 5).v = .slice E ne ce := by have h := hF 5 (by decide +kernel) (by decide +kernel); rw [HF.out] at h; exact h
 have f6 : ∃ (E3 : Option Addr) (e3 : Nat), (gh 6).v = .slice E3 ne e3 ∧ RowIn (inG (gh 6) [(gh 2)]) w4 55 5 (.slice E3 ne e3) (ne) (ents es) := by have h := hF 6 (by decide +kernel) (by decide +kernel); rw [HF.out] at h; exact h
 have f7 : ∃ (E3 : Option Addr) (e3 : Nat), (gh 6).v = .slice E3 ne e3 ∧ (gh 7).v = .agg #[.slice E3 ne e3] := by have h := hF 7 (by decide +kernel) (by decide +kernel); rw [HF.out] at h; exact h
 have f9 : (gh 9).v = .pointer (some ⟨(w.heap.size), 2, none⟩) := by have h := hF 9 (by decide +kernel) (by decide +kernel); rw [HF.out] at h; exact h
 have f10 : (gh 10).v = .slice R nr cr := by have h := hF 10 (by decide +kernel) (by decide +kernel); rw [HF.out] at h; exact h
 have f11 : ∃ (R3 : Option Addr) (r3 : Nat), (gh 11).v = .slice R3 nr r3 ∧ RowIn (inG (gh 11) [(gh 8)]) w4 57 3 (.slice R3 nr r3) (nr) (rcps rs) := by have h := hF 11 (by decide +kernel) (by decide +kernel); rw [HF.out] at h; exact h
 have f13 : (gh 13).v = .pointer (some ⟨(w.heap.size), 3, none⟩) := by have h := hF 13 (by decide +kernel) (by decide +kernel); rw [HF.out] at h; exact h
 have f14 : (gh 14).v = .slice H nh ch := by have h := hF 14 (by decide +kernel) (by decide +kernel); rw [HF.out] at h; exact h
 have f15 : ∃ (H3 : Option Addr) (h3 : Nat), (gh 15).v = .slice H3 nh h3 ∧ RowIn (inG (gh 15) [(gh 12)]) w4 48 5 (.slice H3 nh h3) (nh) (hds hs) := by have h := hF 15 (by decide +kernel) (by decide +kernel); rw [HF.out] at h; exact h
 have f16 : (gh 16).v = .agg #[.int .i64 z1, .slice B1 m1 d1, .int .i64 z2, .slice B2 m2 d2, .int .i64 h.num, .int .i64 h.size, .string h.root, .int .i64 h.taken, .string h.troot] := by have h := hF 16 (by decide +kernel) (by decide +kernel); rw [HF.out] at h; exact h
 have f17 : ∃ (E3 : Option Addr) (e3 : Nat), (gh 6).v = .slice E3 ne e3 ∧ ∃ (R3 : Option Addr) (r3 : Nat), (gh 11).v = .slice R3 nr r3 ∧ ∃ (H3 : Option Addr) (h3 : Nat), (gh 15).v = .slice H3 nh h3 ∧ (gh 17).v = .agg #[.int .i64 width, .slice E3 ne e3, .slice R3 nr r3, .slice H3 nh h3, .int .i64 z1, .slice B1 m1 d1, .int .i64 z2, .slice B2 m2 d2, .int .i64 h.num, .int .i64 h.size, .string h.root, .int .i64 h.taken, .string h.troot] := by have h := hF 17 (by decide +kernel) (by decide +kernel); rw [HF.out] at h; exact h
 have f18 : ∃ (E3 : Option Addr) (e3 : Nat), (gh 6).v = .slice E3 ne e3 ∧ ∃ (R3 : Option Addr) (r3 : Nat), (gh 11).v = .slice R3 nr r3 ∧ ∃ (H3 : Option Addr) (h3 : Nat), (gh 15).v = .slice H3 nh h3 ∧ NewBox w4 (w.heap.size + 1) [.int .i64 width, .slice E3 ne e3, .slice R3 nr r3, .slice H3 nh h3, .int .i64 z1, .slice B1 m1 d1, .int .i64 z2, .slice B2 m2 d2, .int .i64 h.num, .int .i64 h.size, .string h.root, .int .i64 h.taken, .string h.troot] := by have h := hF 18 (by decide +kernel) (by decide +kernel); rw [HF.out] at h; exact h
 obtain ⟨E3, e3, hv6, hrow6⟩ := f6
 obtain ⟨R3, r3, hv11, hrow11⟩ := f11
 obtain ⟨H3, h3, hv15, hrow15⟩ := f15
 have hv0 := f0
 have hv1 := f1
 have hv3 := f3
 have hv4 := f4
 have hv5 := f5
 obtain ⟨E3_7, e3_7, hu6, hv7⟩ := f7
 replace hu6 := hv6.symm.trans hu6
 simp at hu6
 try simp only [and_assoc] at hu6
 obtain ⟨rfl, rfl⟩ := hu6
 have hv9 := f9
 have hv10 := f10
 have hv13 := f13
 have hv14 := f14
 have hv16 := f16
 obtain ⟨E3_17, e3_17, hu6, R3_17, r3_17, hu11, H3_17, h3_17, hu15, hv17⟩ := f17
 replace hu6 := hv6.symm.trans hu6
 simp at hu6
 try simp only [and_assoc] at hu6
 obtain ⟨rfl, rfl⟩ := hu6
 replace hu11 := hv11.symm.trans hu11
 simp at hu11
 try simp only [and_assoc] at hu11
 obtain ⟨rfl, rfl⟩ := hu11
 replace hu15 := hv15.symm.trans hu15
 simp at hu15
 try simp only [and_assoc] at hu15
 obtain ⟨rfl, rfl⟩ := hu15
 obtain ⟨E3_18, e3_18, hu6, R3_18, r3_18, hu11, H3_18, h3_18, hu15, hx18⟩ := f18
 replace hu6 := hv6.symm.trans hu6
 simp at hu6
 try simp only [and_assoc] at hu6
 obtain ⟨rfl, rfl⟩ := hu6
 replace hu11 := hv11.symm.trans hu11
 simp at hu11
 try simp only [and_assoc] at hu11
 obtain ⟨rfl, rfl⟩ := hu11
 replace hu15 := hv15.symm.trans hu15
 simp at hu15
 try simp only [and_assoc] at hu15
 obtain ⟨rfl, rfl⟩ := hu15
 obtain ⟨hs2, hse2, he2⟩ := hE 2 (by decide +kernel)
 obtain ⟨hs6, hse6, he6⟩ := hE 6 (by decide +kernel)
 obtain ⟨hs8, hse8, he8⟩ := hE 8 (by decide +kernel)
 obtain ⟨hs11, hse11, he11⟩ := hE 11 (by decide +kernel)
 obtain ⟨hs12, hse12, he12⟩ := hE 12 (by decide +kernel)
 obtain ⟨hs15, hse15, he15⟩ := hE 15 (by decide +kernel)
 have hdj4_2_6 := hA 2 (by decide +kernel) 6 (by decide +kernel) (by decide)
 have hdj4_2_8 := hA 2 (by decide +kernel) 8 (by decide +kernel) (by decide)
 have hdj4_2_11 := hA 2 (by decide +kernel) 11 (by decide +kernel) (by decide)
 have hdj4_2_12 := hA 2 (by decide +kernel) 12 (by decide +kernel) (by decide)
 have hdj4_2_15 := hA 2 (by decide +kernel) 15 (by decide +kernel) (by decide)
 have hdj4_6_8 := hA 6 (by decide +kernel) 8 (by decide +kernel) (by decide)
 have hdj4_6_11 := hA 6 (by decide +kernel) 11 (by decide +kernel) (by decide)
 have hdj4_6_12 := hA 6 (by decide +kernel) 12 (by decide +kernel) (by decide)
 have hdj4_6_15 := hA 6 (by decide +kernel) 15 (by decide +kernel) (by decide)
 have hdj4_8_11 := hA 8 (by decide +kernel) 11 (by decide +kernel) (by decide)
 have hdj4_8_12 := hA 8 (by decide +kernel) 12 (by decide +kernel) (by decide)
 have hdj4_8_15 := hA 8 (by decide +kernel) 15 (by decide +kernel) (by decide)
 have hdj4_11_12 := hA 11 (by decide +kernel) 12 (by decide +kernel) (by decide)
 have hdj4_11_15 := hA 11 (by decide +kernel) 15 (by decide +kernel) (by decide)
 have hdj4_12_15 := hA 12 (by decide +kernel) 15 (by decide +kernel) (by decide)
 change w3.heap.size ≤ _ at hs2 hs6 hs8 hs11 hs12 hs15
 have hS : ∀ k, inG (gh 6) [gh 2] k → w3.heap.size ≤ k ∧ k < w4.heap.size := by
  rintro k (h | ⟨t, ht, h⟩)
  ·omega
  ·simp only [List.mem_cons, List.not_mem_nil, or_false] at ht
   rcases ht with rfl <;> omega
 have hrwE := hrow6.row
 obtain ⟨hrcE, hrnE, hroE⟩ := hrow6.own hS (Nat.le_refl _)
 have hrkE : ∀ k, (.slice E3 ne e3 : Value).ownBlock = some k → ((gh 6).s ≤ k ∧ k < (gh 6).e) ∨ ((gh 2).s ≤ k ∧ k < (gh 2).e) := fun k hk => (hrow6.at_ k hk).elim Or.inl (fun ⟨t, ht, h⟩ => Or.inr (by simp only [List.mem_cons, List.not_mem_nil, or_false] at ht; subst ht; exact h))
 clear hS hrow6
 have hS : ∀ k, inG (gh 11) [gh 8] k → w3.heap.size ≤ k ∧ k < w4.heap.size := by
  rintro k (h | ⟨t, ht, h⟩)
  ·omega
  ·simp only [List.mem_cons, List.not_mem_nil, or_false] at ht
   rcases ht with rfl <;> omega
 have hrwR := hrow11.row
 obtain ⟨hrcR, hrnR, hroR⟩ := hrow11.own hS (Nat.le_refl _)
 have hrkR : ∀ k, (.slice R3 nr r3 : Value).ownBlock = some k → ((gh 11).s ≤ k ∧ k < (gh 11).e) ∨ ((gh 8).s ≤ k ∧ k < (gh 8).e) := fun k hk => (hrow11.at_ k hk).elim Or.inl (fun ⟨t, ht, h⟩ => Or.inr (by simp only [List.mem_cons, List.not_mem_nil, or_false] at ht; subst ht; exact h))
 clear hS hrow11
 have hS : ∀ k, inG (gh 15) [gh 12] k → w3.heap.size ≤ k ∧ k < w4.heap.size := by
  rintro k (h | ⟨t, ht, h⟩)
  ·omega
  ·simp only [List.mem_cons, List.not_mem_nil, or_false] at ht
   rcases ht with rfl <;> omega
 have hrwH := hrow15.row
 obtain ⟨hrcH, hrnH, hroH⟩ := hrow15.own hS (Nat.le_refl _)
 have hrkH : ∀ k, (.slice H3 nh h3 : Value).ownBlock = some k → ((gh 15).s ≤ k ∧ k < (gh 15).e) ∨ ((gh 12).s ≤ k ∧ k < (gh 12).e) := fun k hk => (hrow15.at_ k hk).elim Or.inl (fun ⟨t, ht, h⟩ => Or.inr (by simp only [List.mem_cons, List.not_mem_nil, or_false] at ht; subst ht; exact h))
 clear hS hrow15
 clear hE hA hF
 generalize (gh 8).v = vq8 at *
 generalize (gh 2).v = vq2 at *
 generalize (gh 12).v = vq12 at *
 simp only [putDs, Nat.reduceAdd, hv0, hv1, hv3, hv4, hv5, hv6, hv7, hv9, hv10, hv11, hv13, hv14, hv15, hv16, hv17]
 clear hv0 hv1 hv3 hv4 hv5 hv6 hv7 hv9 hv10 hv11 hv13 hv14 hv15 hv16 hv17
 generalize (gh 2).s = s4_2 at *
 generalize (gh 2).e = e4_2 at *
 generalize (gh 6).s = s4_6 at *
 generalize (gh 6).e = e4_6 at *
 generalize (gh 8).s = s4_8 at *
 generalize (gh 8).e = e4_8 at *
 generalize (gh 11).s = s4_11 at *
 generalize (gh 11).e = e4_11 at *
 generalize (gh 12).s = s4_12 at *
 generalize (gh 12).e = e4_12 at *
 generalize (gh 15).s = s4_15 at *
 generalize (gh 15).e = e4_15 at *
 clear HF
 have hb := hB
 clear hB
 have hzw4 : w3.heap.size ≤ w4.heap.size := hb.size
 have hzzw4 : w.heap.size ≤ w4.heap.size := by omega
 replace HB := Lib.hid (below_only HB.out hb (by omega) HB.out.size)
 replace HOE := Lib.hid (HOE.out.only hb (by first | omega | (simp; omega)))
 replace HOR := Lib.hid (HOR.out.only hb (by first | omega | (simp; omega)))
 replace HOH := Lib.hid (HOH.out.only hb (by first | omega | (simp; omega)))
 replace HOP := Lib.hid (HOP.out.only hb (by first | omega | (simp; omega)))
 replace HOQ := Lib.hid (HOQ.out.only hb (by first | omega | (simp; omega)))
 replace HXb := Lib.hid (HXb.out.only hb (by first | omega | (simp; omega)))
 clear hxb hfb hkb
 have hxb := HXb.out.2.1
 have hfb := HXb.out.2.2
 have hkb := HXb.out.1
 clear hxq hfq hkq HXq
 replace HXs := Lib.hid (HXs.out.only hb (by first | omega | (simp; omega)))
 clear hxs hfs hks
 have hxs := HXs.out.2.1
 have hfs := HXs.out.2.2
 have hks := HXs.out.1
 clear hb
 have HXq : Hid (NewBox w4 (w.heap.size + 1) [.int .i64 width, .slice E3 ne e3, .slice R3 nr r3, .slice H3 nh h3, .int .i64 z1, .slice B1 m1 d1, .int .i64 z2, .slice B2 m2 d2, .int .i64 h.num, .int .i64 h.size, .string h.root, .int .i64 h.taken, .string h.troot]) := hx18
 have hxq := HXq.out.2.1
 have hfq := HXq.out.2.2
 have hkq := HXq.out.1
 clear hx18
 have he3 := RowT.of0 (lo := w.heap.size) (hi := w4.heap.size) hrwE (fun k hk => by have := hrkE k hk; omega)
 have hr3 := RowT.of0 (lo := w.heap.size) (hi := w4.heap.size) hrwR (fun k hk => by have := hrkR k hk; omega)
 have hh3 := RowT.of0 (lo := w.heap.size) (hi := w4.heap.size) hrwH (fun k hk => by have := hrkH k hk; omega)
 have h13 := RowT.mono (lo' := w.heap.size) (hi' := w4.heap.size) HOP.out (by omega) (by omega)
 have h23 := RowT.mono (lo' := w.heap.size) (hi' := w4.heap.size) HOQ.out (by omega) (by omega)
 have hall : CopyK w4 w.heap.size w4.heap.size ⟨E3, R3, H3, B1, B2, e3, r3, h3, d1, d2⟩ ⟨es, rs, hs, l1, l2⟩ := by
  have qP := HOP.out.at_
  have qQ := HOQ.out.at_
  dsimp only at qP qQ
  obtain rfl := HNE.out
  obtain rfl := HNR.out
  obtain rfl := HNH.out
  obtain rfl := HM1.out
  obtain rfl := HM2.out
  exact ⟨he3, hr3, hh3, h13, h23, fun k a b => by have := hrkE k a; have := hrkR k b; omega, fun k a b => by have := hrkE k a; have := hrkH k b; omega, fun k a b => by have := hrkR k a; have := hrkH k b; omega,
   fun k a b => by have := qP k a; have := hrkR k b; omega, fun k a b => by have := qQ k a; have := hrkR k b; omega, fun k a b => by have := qP k a; have := hrkH k b; omega, fun k a b => by have := qQ k a; have := hrkH k b; omega⟩
 have HALL := Lib.hid hall
 clear hall he3 hr3 hh3 h13 h23 hrwE hrwR hrwH hrcE hrcR hrcH hrnE hrnR hrnH hroE hroR hroH hrkE hrkR hrkH
 go_wp2
 refine bodyPost_ret (v := .agg #[.int .i64 width, .slice E3 ne e3, .slice R3 nr r3, .slice H3 nh h3, .int .i64 z1, .slice B1 m1 d1, .int .i64 z2, .slice B2 m2 d2, .int .i64 h.num, .int .i64 h.size, .string h.root, .int .i64 h.taken, .string h.troot]) (by simp [results, Try.results109, go_sem, hxq]) rfl ?_
 exact ⟨⟨E3, R3, H3, B1, B2, e3, r3, h3, d1, d2⟩, rfl, HALL.out, HB.out⟩
end Go.Proofs.Ytoccjgcokffkbaa
namespace Go.Proofs.Ytoccjgcokffkbaa
set_option linter.unusedVariables false
set_option linter.unusedSimpArgs false
open Go.RowKit
def Apart (v1 v2 : Value) : Prop := ∀ k, v1.ownBlock = some k → v2.ownBlock ≠ some k
theorem Apart.symm {v1 v2 : Value} (h : Apart v1 v2) : Apart v2 v1 := fun k h1 h2 => h k h2 h1
theorem Apart.next {w w' : World} {p o m base : Nat} {v v1 v1' : Value} {xs : List Value} (h : Apart v v1) (hg : GrowRel p o v1 v1' w w') (hr : w.ownsRow base 9 1 v m xs) : Apart v v1' := fun k hk e =>
 (hg.own k e).elim (h k hk) (fun h2 => by have := (hr.lt k hk).2; omega)
theorem row_one {w : World} {base m c : Nat} {A : Option Addr} {xs : List Value} (h : w.ownsRow base 9 1 (.slice A m c) m xs) (hb : base ≤ w.heap.size) :
  (xs = []) ∨ ∃ g, A = some ⟨g, 0, none⟩ ∧ base ≤ g ∧ g < w.heap.size ∧ Own w g (g + 1) A xs := by
 rcases h.2 with ⟨h1, h2⟩ | ⟨g, cap, cur, h1, h2, h3, h4⟩
 ·refine .inl (List.eq_nil_of_length_eq_zero ?_)
  rw [h.1, h2]
 ·injection h1 with e1 e2 e3
  subst e1
  subst e3
  have hlt := (h.lt g rfl).2
  refine .inr ⟨g, rfl, h2, hlt, ?_⟩
  have h5 : w.ownsRow g 9 1 (.slice (some ⟨g, 0, none⟩) m c) m xs := ⟨h.1, .inr ⟨g, c, cur, rfl, Nat.le_refl _, h3, h4⟩⟩
  exact (Own.of_ownsRow h5).tight
/-- the blocks that hold no strings of a row stay, but for p -/
def KeepT (p : Nat) (w w' : World) : Prop := w.heap.size ≤ w'.heap.size ∧ ∀ k, k ≠ p → Typed w k → w'.heap[k]? = w.heap[k]?
theorem KeepT.trans {p : Nat} {a b c : World} (h : KeepT p a b) (k : KeepT p b c) : KeepT p a c := ⟨Nat.le_trans h.1 k.1, fun i hi ht => (k.2 i hi (ht.keep (h.2 i hi ht))).trans (h.2 i hi ht)⟩
theorem KeepT.grow {w w' : World} {p o m base : Nat} {v v' : Value} {xs : List Value} (hg : GrowRel p o v v' w w') (hr : w.ownsRow base 9 1 v m xs) : KeepT p w w' := ⟨hg.size, fun k hk ht => hg.block k ht.lt hk (ht.not_row hr)⟩
theorem KeepT.below {p : Nat} {w w' : World} (hb : Below w.heap.size w w') : KeepT p w w' := ⟨hb.size, fun k _ ht => hb.block k ht.lt⟩
theorem KeepT.set {p : Nat} {w w' : World} (h : KeepT p w w') (j : Nat) (u : Value) : KeepT p w (w'.setCell ⟨p, j, none⟩ u) :=
 ⟨by simpa [World.setCell] using h.1, fun k hk ht => (Below.heap_setCell _ _ _ _ (fun e => hk e)).trans (h.2 k hk ht)⟩
end Go.Proofs.Ytoccjgcokffkbaa
namespace Go.Proofs.Ytoccjgcokffkbaa
set_option linter.unusedVariables false
set_option linter.unusedSimpArgs false
open Go.RowKit
set_option maxRecDepth 100000 in
set_option maxHeartbeats 4000000 in
theorem specSealNew_c (width : Int) (w : World) : Calls Try.prog 24 #[.int .i64 width] w fun e w' => e = .returned (.tuple #[.agg #[.int .i64 0, .slice none 0 0, .int .i64 0, .slice none 0 0, .int .i64 0, .int .i64 0, .string (emptyT width), .int .i64 0, .string (emptyT width)], .bool (inR width 1 32)]) ∧ Below w.heap.size w w' := by
 have HN := Lib.hid (fun h => emptyT_no (width := width) h)
 have HE := Lib.hid (fun W => specHeadNew_c width W)
 generalize emptyT width = em at *
 generalize inR width 1 32 = q1 at *
 have HB : Hid (Below w.heap.size w w) := Below.refl _ _
 go_enter Try.func24, Try.ntmps24
 go_wp2_with fail
 refine calls_named (fun w1 hw => ?_)
 have hz1 : w.heap.size + 1 ≤ w1.heap.size := by rw [hw]; first | omega | (simp [World.setCell]; done) | (simp [World.setCell]; omega)
 have hzz1 : w.heap.size ≤ w1.heap.size := by omega
 have hbn : Below w.heap.size w w1 := by rw [hw]; exact (by ((repeat (first | ((with_reducible refine Below.alloc ?_ ?_ _); rotate_left 1; (focus (first | omega | (simp; done) | (simp; omega)))) | (with_reducible refine Below.drew ?_) | ((with_reducible refine Below.setCell ?_ ?_ _); rotate_left 1; (focus (first | omega | (simp; done) | (simp; omega)))))); exact Below.refl _ _))
 replace HB := Lib.hid (below_then HB.out hbn HB.out.size)
 clear hbn
 have HXr : Hid (NewBox w1 (w.heap.size) [.int .i64 0, .slice none 0 0, .int .i64 0, .slice none 0 0, .int .i64 0, .int .i64 0, .string ⟨#[]⟩, .int .i64 0, .string ⟨#[]⟩]) := by rw [Hid, hw]; exact ⟨by first | omega | (simp [World.setCell]; done) | (simp [World.setCell]; omega), fun o => by rcases o with _ | _ | _ | _ | _ | _ | _ | _ | _ | o <;> go_simp, fun o => by go_simp⟩
 have hxr := HXr.out.2.1
 have hfr := HXr.out.2.2
 have hkr := HXr.out.1
 clear hw
 refine (HE.out _).mono ?_
 rintro e w2 ⟨rfl, hb⟩
 have hzw2 : w1.heap.size ≤ w2.heap.size := hb.size
 have hzzw2 : w.heap.size ≤ w2.heap.size := by omega
 replace HB := Lib.hid (below_then HB.out hb HB.out.size)
 replace HXr := Lib.hid (HXr.out.below hb)
 clear hxr hfr hkr
 have hxr := HXr.out.2.1
 have hfr := HXr.out.2.2
 have hkr := HXr.out.1
 clear hb
 rcases q1 with _ | _
 ·obtain rfl := HN.out rfl
  go_wp2
  refine bodyPost_named (fun w3 hw => ?_)
  have hz3 : w2.heap.size + 1 ≤ w3.heap.size := by rw [hw]; first | omega | (simp [World.setCell]; done) | (simp [World.setCell]; omega)
  have hzz3 : w.heap.size ≤ w3.heap.size := by omega
  replace HB : Hid (Below w.heap.size w w3) := by rw [Hid, hw]; exact (by ((repeat (first | ((with_reducible refine Below.alloc ?_ ?_ _); rotate_left 1; (focus (first | omega | (simp; done) | (simp; omega)))) | (with_reducible refine Below.drew ?_) | ((with_reducible refine Below.setCell ?_ ?_ _); rotate_left 1; (focus (first | omega | (simp; done) | (simp; omega)))))); exact HB.out))
  replace HXr : Hid (NewBox w3 (w.heap.size) [.int .i64 0, .slice none 0 0, .int .i64 0, .slice none 0 0, .int .i64 0, .int .i64 0, .string ⟨#[]⟩, .int .i64 0, .string ⟨#[]⟩]) := by rw [Hid, hw]; apply NewBox.cast; (focus ((repeat (first | (with_reducible apply NewBox.alloc) | (with_reducible apply NewBox.drew) | (with_reducible apply NewBox.set1) | ((with_reducible apply NewBox.far); (focus (first | omega | (simp; done) | (simp; omega)))))); exact HXr.out)); rfl
  clear hxr hfr hkr
  have hxr := HXr.out.2.1
  have hfr := HXr.out.2.2
  have hkr := HXr.out.1
  have HXh : Hid (NewBox w3 (w2.heap.size) [.int .i64 0, .int .i64 0, .string ⟨#[]⟩, .int .i64 0, .string ⟨#[]⟩]) := by rw [Hid, hw]; exact ⟨by first | omega | (simp [World.setCell]; done) | (simp [World.setCell]; omega), fun o => by rcases o with _ | _ | _ | _ | _ | o <;> go_simp, fun o => by go_simp⟩
  have hxh := HXh.out.2.1
  have hfh := HXh.out.2.2
  have hkh := HXh.out.1
  clear hw
  refine bodyPost_ret (v := .tuple #[.agg #[.int .i64 0, .slice none 0 0, .int .i64 0, .slice none 0 0, .int .i64 0, .int .i64 0, .string ⟨#[]⟩, .int .i64 0, .string ⟨#[]⟩], .bool false]) (by simp [results, Try.results24, go_sem, hxr]) rfl ?_
  exact ⟨rfl, HB.out⟩
 ·skip
  go_wp2
  refine bodyPost_named (fun w3 hw => ?_)
  have hz3 : w2.heap.size + 1 ≤ w3.heap.size := by rw [hw]; first | omega | (simp [World.setCell]; done) | (simp [World.setCell]; omega)
  have hzz3 : w.heap.size ≤ w3.heap.size := by omega
  replace HB : Hid (Below w.heap.size w w3) := by rw [Hid, hw]; exact (by ((repeat (first | ((with_reducible refine Below.alloc ?_ ?_ _); rotate_left 1; (focus (first | omega | (simp; done) | (simp; omega)))) | (with_reducible refine Below.drew ?_) | ((with_reducible refine Below.setCell ?_ ?_ _); rotate_left 1; (focus (first | omega | (simp; done) | (simp; omega)))))); exact HB.out))
  replace HXr : Hid (NewBox w3 (w.heap.size) [.int .i64 0, .slice none 0 0, .int .i64 0, .slice none 0 0, .int .i64 0, .int .i64 0, .string em, .int .i64 0, .string em]) := by rw [Hid, hw]; apply NewBox.cast; (focus ((repeat (first | (with_reducible apply NewBox.alloc) | (with_reducible apply NewBox.drew) | (with_reducible apply NewBox.set1) | ((with_reducible apply NewBox.far); (focus (first | omega | (simp; done) | (simp; omega)))))); exact HXr.out)); rfl
  clear hxr hfr hkr
  have hxr := HXr.out.2.1
  have hfr := HXr.out.2.2
  have hkr := HXr.out.1
  have HXh : Hid (NewBox w3 (w2.heap.size) [.int .i64 0, .int .i64 0, .string em, .int .i64 0, .string em]) := by rw [Hid, hw]; exact ⟨by first | omega | (simp [World.setCell]; done) | (simp [World.setCell]; omega), fun o => by rcases o with _ | _ | _ | _ | _ | o <;> go_simp, fun o => by go_simp⟩
  have hxh := HXh.out.2.1
  have hfh := HXh.out.2.2
  have hkh := HXh.out.1
  clear hw
  refine bodyPost_ret (v := .tuple #[.agg #[.int .i64 0, .slice none 0 0, .int .i64 0, .slice none 0 0, .int .i64 0, .int .i64 0, .string em, .int .i64 0, .string em], .bool true]) (by simp [results, Try.results24, go_sem, hxr]) rfl ?_
  exact ⟨rfl, HB.out⟩
end Go.Proofs.Ytoccjgcokffkbaa
namespace Go.Proofs.Ytoccjgcokffkbaa
set_option linter.unusedVariables false
set_option linter.unusedSimpArgs false
open Go.RowKit
/-- a seal in memory that has sealed the first n1 and n2 hashes -/
structure SealAt (w : World) (p : Nat) (width : Int) (L T : List ByteArray) (n1 n2 : Nat) (h : Hd) : Prop where
 ex : ∃ A1 c1 A2 c2, RngAt w p p 0 n1 (.slice A1 (popN n1) c1) (popN n1) (growUp width 0 [] L n1) ∧ RngAt w p p 2 n2 (.slice A2 (popN n2) c2) (popN n2) (growUp width 0 [] T n2) ∧ Apart (.slice A1 (popN n1) c1) (.slice A2 (popN n2) c2)
 c4 : w.cell? ⟨p, 4, none⟩ = some (.int .i64 h.num)
 c5 : w.cell? ⟨p, 5, none⟩ = some (.int .i64 h.size)
 c6 : w.cell? ⟨p, 6, none⟩ = some (.string h.root)
 c7 : w.cell? ⟨p, 7, none⟩ = some (.int .i64 h.taken)
 c8 : w.cell? ⟨p, 8, none⟩ = some (.string h.troot)
theorem SealAt.lt {w : World} {p : Nat} {width : Int} {L T : List ByteArray} {n1 n2 : Nat} {h : Hd} (s : SealAt w p width L T n1 n2 h) : p < w.heap.size := by
 obtain ⟨_, _, _, _, h1, _⟩ := s.ex
 exact h1.typed.lt
theorem SealAt.below {w w' : World} {p : Nat} {width : Int} {L T : List ByteArray} {n1 n2 : Nat} {h : Hd} (s : SealAt w p width L T n1 n2 h) (hb : Below w.heap.size w w') : SealAt w' p width L T n1 n2 h := by
 have hl := s.lt
 obtain ⟨A1, c1, A2, c2, h1, h2, h3⟩ := s.ex
 exact ⟨⟨A1, c1, A2, c2, h1.below hb, h2.below hb, h3⟩, (hb.cell (p := ⟨p, 4, none⟩) hl).trans s.c4, (hb.cell (p := ⟨p, 5, none⟩) hl).trans s.c5, (hb.cell (p := ⟨p, 6, none⟩) hl).trans s.c6, (hb.cell (p := ⟨p, 7, none⟩) hl).trans s.c7, (hb.cell (p := ⟨p, 8, none⟩) hl).trans s.c8⟩
end Go.Proofs.Ytoccjgcokffkbaa
namespace Go.Proofs.Ytoccjgcokffkbaa
set_option linter.unusedVariables false
set_option linter.unusedSimpArgs false
open Go.RowKit
theorem hdField1 (n s t : Int) (r u : ByteArray) (W : World) : (Instr.field 48 (.agg #[.int .i64 n, .int .i64 s, .string r, .int .i64 t, .string u]) 1).run Try.prog W = .ok (.int .i64 s) W := by kernel_rfl
theorem idxRcp (R : Option Addr) (b off nr cr k : Nat) (hR : R = some ⟨b, off, none⟩) (hk : k < nr) (W : World) : (Instr.indexAt 43 (.slice R nr cr) (.int .i64 k)).run Try.prog W = .ok (.pointer (some ⟨b, off + k * 3, none⟩)) W := by
 subst hR
 have h1 : (k : Int) < nr := by omega
 go_simp
theorem idxEnt (R : Option Addr) (b off nr cr k : Nat) (hR : R = some ⟨b, off, none⟩) (hk : k < nr) (W : World) : (Instr.indexAt 40 (.slice R nr cr) (.int .i64 k)).run Try.prog W = .ok (.pointer (some ⟨b, off + k * 5, none⟩)) W := by
 subst hR
 have h1 : (k : Int) < nr := by omega
 go_simp
theorem idxHd (R : Option Addr) (b off nr cr k : Nat) (hR : R = some ⟨b, off, none⟩) (hk : k < nr) (W : World) : (Instr.indexAt 44 (.slice R nr cr) (.int .i64 k)).run Try.prog W = .ok (.pointer (some ⟨b, off + k * 5, none⟩)) W := by
 subst hR
 have h1 : (k : Int) < nr := by omega
 go_simp
end Go.Proofs.Ytoccjgcokffkbaa
namespace Go.Proofs.Ytoccjgcokffkbaa
set_option linter.unusedVariables false
set_option linter.unusedSimpArgs false
open Go.RowKit
end Go.Proofs.Ytoccjgcokffkbaa
namespace Go.Proofs.Ytoccjgcokffkbaa
set_option linter.unusedVariables false
set_option linter.unusedSimpArgs false
open Go.RowKit
theorem RowB.ownB {w : World} {lo hi n c m : Nat} {A : Option Addr} {xs : List Value} (h : RowB w lo hi (.slice A n c, m) xs) (hm : m = n) (hh : hi ≤ w.heap.size) (hl : lo ≤ w.heap.size) : Own w lo hi A xs := by
 subst hm
 rcases row_one h.1 hl with rfl | ⟨g, rfl, h1, h2, h3⟩
 ·exact Own.nil
 ·exact h3.mono h1 (h.2 g rfl) hh
end Go.Proofs.Ytoccjgcokffkbaa
namespace Go.Proofs.Ytoccjgcokffkbaa
set_option linter.unusedVariables false
set_option linter.unusedSimpArgs false
open Go.RowKit
def framesW (l : List ByteArray) : List UInt8 := l.flatMap fun t => (frameM t).data.toList
def framesFine (l : List ByteArray) : Nat → Bool
 | 0 => true
 | k + 1 => framesFine l k && match l[k]? with
   | some t => frameOk t && decide (((frameM t).size : Int) ≤ 300000 - (framesW (l.take k)).length)
   | none => false
def framesOk (l : List ByteArray) : Bool := decide (l.length ≤ 600) && framesFine l l.length
def framesM (l : List ByteArray) : ByteArray := if framesOk l then ⟨(framesW l).toArray⟩ else ByteArray.empty
theorem framesW_take {l : List ByteArray} {k : Nat} {t : ByteArray} (h : l[k]? = some t) : framesW (l.take (k + 1)) = framesW (l.take k) ++ (frameM t).data.toList := by
 rw [take_succ h, framesW, List.flatMap_append]; simp [framesW]
theorem framesFine_le {l : List ByteArray} : ∀ {n k : Nat}, k ≤ n → framesFine l n = true → framesFine l k = true
 | 0, k, hk, h => by
   obtain rfl : k = 0 := by omega
   exact h
 | n + 1, k, hk, h => by
   by_cases e : k = n + 1
   ·subst e; exact h
   ·rw [framesFine, Bool.and_eq_true] at h
    exact framesFine_le (by omega) h.1
theorem framesOk_no {l : List ByteArray} {n k : Nat} {t : ByteArray} (hn : l.length = n) (hk : k < n) (ht : l[k]? = some t) (h : (frameOk t && decide (((frameM t).size : Int) ≤ 300000 - (framesW (l.take k)).length)) = false) : framesOk l = false := by
 rcases hh : framesOk l with _ | _
 ·rfl
 ·rw [framesOk, Bool.and_eq_true] at hh
  have h1 := framesFine_le (n := l.length) (k := k + 1) (by omega) hh.2
  rw [framesFine, ht] at h1
  simp only [h, Bool.and_false] at h1
  cases h1
theorem frameM_pos {t : ByteArray} (h : frameOk t = true) : 2 ≤ (frameM t).size := by
 rw [frameM, if_pos h, frameB, ByteArray.size_append, ByteArray.size_append, pairB_size]; omega
theorem frameM_le {t : ByteArray} (h : frameOk t = true) : (frameM t).size ≤ 1040 := by
 have h1 := digM_le 4 4 t
 have h2 := inR_true.1 h
 rw [frameM, if_pos h, frameB, ByteArray.size_append, ByteArray.size_append, pairB_size]; omega
set_option maxRecDepth 100000 in
set_option maxHeartbeats 4000000 in
theorem specFrames_c (A : Option Addr) (c lo hi n : Nat) (l : List ByteArray) (w : World) (hr : Rd w lo hi A (strs l)) (hn : l.length = n) (hl : n + bulkS l ≤ 1048576) :
  Calls Try.prog 156 #[.slice A n c] w fun e w' => e = .returned (.tuple #[.string (framesM l), .bool (framesOk l)]) ∧ Below w.heap.size w w' := by
 have HR := Lib.hid hr.base
 have HN := Lib.hid hn
 have HL := Lib.hid hl
 have hn2 : n ≤ 1048576 := by omega
 have hrow := row_made w 5 0
 have hbl : Below w.heap.size w (w.alloc (.cells #[] 5)) := (Below.refl _ _).alloc (Nat.le_refl _) _
 have HROW := Lib.hid hrow
 have HBL := Lib.hid hbl
 have hcv := fun (W : World) (s : ByteArray) => Lib.run_convert_string_bytes (P := Try.prog) W 9 22 5 s Try.underlying9 Try.underlying22 Try.underlying5
 have hbad : framesOk l = false → (.tuple #[.string (framesM l), .bool (framesOk l)] : Value) = .tuple #[.string ⟨#[]⟩, .bool false] := fun h => by rw [framesM, h]; rfl
 have HBAD := Lib.hid hbad
 clear hr hn hl hbad hrow hbl
 by_cases h6 : n ≤ 600
 ·go_enter Try.func156, Try.ntmps156
  go_wp2
  go_loopw [4, 5] (fun v i wx => ∃ k m g c0 : Nat, k ≤ n ∧ i = .int .i64 k ∧ m ≤ 300000 ∧ (framesW (l.take k)).length = m ∧ framesFine l k = true ∧ v = .slice (some ⟨g, 0, none⟩) m c0 ∧ wx.ownsRow w.heap.size 5 1 (.slice (some ⟨g, 0, none⟩) m c0) m (Lib.byteCells (framesW (l.take k))) ∧ Below w.heap.size w wx) (fun _ i _ => n - (intOf i).toNat)
  case atStart => exact ⟨0, 0, _, 0, Nat.zero_le _, rfl, Nat.zero_le _, rfl, rfl, rfl, HROW.out, HBL.out⟩
  case round =>
   obtain ⟨k, m, g, c0, hk, rfl, hm3, hm, hfi, rfl, how, hb⟩ := hrel
   have HB := Lib.hid hb
   have HOW := Lib.hid how
   have HM := Lib.hid hm
   have HFI := Lib.hid hfi
   clear hb how hm hfi
   by_cases hlt : k < n
   ·obtain ⟨b, off, t, rfl, hb, hks, hcell⟩ := (HR.out.below HB.out).str (k := k) (by rw [HN.out]; exact hlt)
    have htz := bulkS_get hks
    have ht1 : t.size ≤ 1048576 := by have := HL.out; omega
    have HT := Lib.hid (framesW_take hks)
    have HNO := Lib.hid (framesOk_no HN.out hlt hks)
    have HFF : Hid (framesFine l (k + 1) = (framesFine l k && (frameOk t && decide (((frameM t).size : Int) ≤ 300000 - (framesW (l.take k)).length)))) := Lib.hid (by rw [framesFine, hks])
    have HFR := Lib.hid (fun W => specFrame_c t W ht1)
    have hI : (k : Int) < n := by omega
    clear hks htz
    go_wp2_with fail
    refine (HFR.out _).mono ?_
    rintro e w1 ⟨rfl, hb1⟩
    have HB1 := Lib.hid (below_then HB.out hb1 HB.out.size)
    have HO1 := Lib.hid (row_below HOW.out hb1)
    clear hb1 HOW
    rcases q1 : frameOk t with _ | _
    ·have HD := Lib.hid (HBAD.out (HNO.out (by rw [q1]; rfl)))
     clear q1
     generalize frameM t = fr at *
     go_wp2
     refine bodyPost_ret (v := .tuple #[.string ⟨#[]⟩, .bool false]) (by simp [results, Try.results156, go_sem]) rfl ?_
     exact ⟨by rw [HD.out], HB1.out⟩
    ·have hfz := frameM_le q1
     have hfp := frameM_pos q1
     rw [q1, HM.out] at HNO HFF
     clear q1
     generalize frameM t = fr at *
     have E1 : IntKind.i64.wrap (300000 - (m : Int)) = 300000 - m := by rw [IntKind.wrap_i64]; omega
     rcases Nat.lt_or_ge 300000 (fr.size + m) with hbig | hsm
     ·have HD := Lib.hid (HBAD.out (HNO.out (by rw [decide_eq_false (by omega)]; rfl)))
      have hd : decide (300000 - (m : Int) < (fr.size : Int)) = true := decide_eq_true (by omega)
      go_wp2
      refine bodyPost_ret (v := .tuple #[.string ⟨#[]⟩, .bool false]) (by simp [results, Try.results156, go_sem]) rfl ?_
      exact ⟨by rw [HD.out], HB1.out⟩
     ·have HFG : Hid (framesFine l (k + 1) = true) := Lib.hid (by rw [HFF.out, HFI.out, decide_eq_true (by omega)]; rfl)
      have hd : decide (300000 - (m : Int) < (fr.size : Int)) = false := decide_eq_false (by omega)
      have HO2 := Lib.hid (row_below HO1.out (bytes_below w1 5 fr))
      have HB2 := Lib.hid (below_then HB1.out (bytes_below w1 5 fr) HB1.out.size)
      have HRD := Lib.hid (bytes_rd w1 5 fr)
      go_wp2_with (at_builtin; refine appBy rfl _ _ rfl w.heap.size _ _ _ rfl HO2.out _ fr.size _ 0 _ fr.data.toList rfl (by rw [Array.length_toList]; rfl) HRD.out (fun h => by cases h) (by omega) HB2.out.size ?_)
      intro v2 w2 hown2 hg2
      have hon := grown_only HO2.out hg2
      have HB3 := Lib.hid (below_only HB2.out hon (Nat.le_refl _) HB2.out.size)
      obtain ⟨g2, c2, rfl⟩ := row_form hown2 (by omega)
      rw [← bys_app, ← HT.out] at hown2
      have HO3 := Lib.hid hown2
      clear hown2 hg2 hon HO2 HO1 hd E1
      go_wp2
      go_roundw
      case rel => exact ⟨k + 1, m + fr.size, g2, c2, by omega, by go_num, by omega, by rw [HT.out, List.length_append, HM.out, Array.length_toList]; rfl, HFG.out, rfl, HO3.out, HB3.out⟩
      case measure => simp [intOf]; omega
   ·obtain rfl : k = n := by omega
    have HOK : Hid (framesOk l = true) := Lib.hid (by rw [framesOk, HN.out, HFI.out, decide_eq_true h6]; rfl)
    have HLT : l.take k = l := List.take_of_length_le (by rw [HN.out]; exact Nat.le_refl _)
    rw [HLT] at HOW HM
    have hr := (Own.of_ownsRow HOW.out).rd
    have hcb := run_convert_bytes_back (P := Try.prog) wr 22 9 5 ⟨g, 0, none⟩ c0 (framesW l) Try.underlying22 Try.underlying5 Try.underlying9 (fun j hj => by
     have hne : Lib.byteCells (framesW l) ≠ [] := by
      intro e
      have e2 := bys_len (framesW l)
      rw [e] at e2
      simp at e2
      omega
     obtain ⟨b, off, h0, _, _, _, hcs⟩ := hr hne
     cases h0
     have h := hcs j (.int .u8 ((framesW l)[j].toNat : Int)) (by simp [Lib.byteCells, hj])
     rwa [Addr.add_lit])
    rw [HM.out] at hcb
    clear hr hcv HLT
    go_wp2
    refine bodyPost_ret (v := .tuple #[.string ⟨(framesW l).toArray⟩, .bool true]) (by simp [results, Try.results156, go_sem]) rfl ?_
    exact ⟨by rw [framesM, HOK.out]; rfl, HB.out⟩
 ·have HD := Lib.hid (HBAD.out (by rw [framesOk, HN.out, decide_eq_false h6]; rfl))
  go_enter Try.func156, Try.ntmps156
  go_wp2
  refine bodyPost_ret (v := .tuple #[.string ⟨#[]⟩, .bool false]) (by simp [results, Try.results156, go_sem]) rfl ?_
  exact ⟨by rw [HD.out], Below.refl _ _⟩
end Go.Proofs.Ytoccjgcokffkbaa
namespace Go.Proofs.Ytoccjgcokffkbaa
set_option linter.unusedVariables false
set_option linter.unusedSimpArgs false
open Go.RowKit
def fileL (width : Int) (es : List Ent) (rs : List Rcp) (hs : List Hd) (f : Nat) : List ByteArray := if f = 0 then es.map leafTextM else if f = 1 then (hs.drop 1).map (headTextM width) else rs.map rcpTextM
theorem bulkS_le {m : Nat} : ∀ {l : List ByteArray}, (∀ s ∈ l, s.size ≤ m) → bulkS l ≤ l.length * m
 | [], _ => Nat.zero_le _
 | s :: l, h => by
   have h1 := h s List.mem_cons_self
   have h2 := bulkS_le (l := l) (fun t ht => h t (List.mem_cons_of_mem _ ht))
   rw [bulkS, List.length_cons, Nat.add_mul]
   omega
theorem fileL_le {width : Int} {es : List Ent} {rs : List Rcp} {hs : List Hd} (b1 : es.length ≤ 1000) (b2 : rs.length ≤ 1000) (b3 : hs.length ≤ 1000) (f : Nat) : (fileL width es rs hs f).length + bulkS (fileL width es rs hs f) ≤ 1048576 := by
 have hall : (fileL width es rs hs f).length ≤ 1000 ∧ ∀ s ∈ fileL width es rs hs f, s.size ≤ 480 := by
  unfold fileL
  split
  ·exact ⟨by rw [List.length_map]; exact b1, fun s hs => by obtain ⟨x, _, rfl⟩ := List.mem_map.1 hs; exact leafTextM_size x⟩
  ·split
   ·exact ⟨by rw [List.length_map, List.length_drop]; omega, fun s hs => by obtain ⟨x, _, rfl⟩ := List.mem_map.1 hs; exact Nat.le_trans (headTextM_size width x) (by omega)⟩
   ·exact ⟨by rw [List.length_map]; exact b2, fun s hs => by obtain ⟨x, _, rfl⟩ := List.mem_map.1 hs; exact Nat.le_trans (rcpTextM_size x) (by omega)⟩
 have h2 := bulkS_le hall.2
 have h3 := Nat.mul_le_mul_right 480 hall.1
 omega
end Go.Proofs.Ytoccjgcokffkbaa
namespace Go.Proofs.Ytoccjgcokffkbaa
set_option linter.unusedVariables false
set_option linter.unusedSimpArgs false
open Go.RowKit
set_option maxRecDepth 100000 in
set_option maxHeartbeats 4000000 in
theorem l12File_c (width z1 z2 : Int) (E R H A1 A2 : Option Addr) (ne nr nh ce cr ch c1 c2 lo1 hi1 lo2 hi2 lo3 hi3 m1 m2 : Nat) (es : List Ent) (rs : List Rcp) (hs : List Hd) (h : Hd) (f : Nat) (w : World)
  (hE : Rd w lo1 hi1 E (ents es)) (hR : Rd w lo2 hi2 R (rcps rs)) (hH : Rd w lo3 hi3 H (hds hs)) (hne : es.length = ne) (hnr : rs.length = nr) (hnh : hs.length = nh) (b1 : ne ≤ 1000) (b2 : nr ≤ 1000) (b3 : nh ≤ 1000) (hpos : 1 ≤ nh) (hch : nh ≤ ch) (hfe : ∀ x ∈ es, x.fits) (hfr : ∀ x ∈ rs, x.fits) (hfh : ∀ x ∈ hs, x.bulk ≤ 1048576) (hf2 : f ≤ 2) :
  Calls Try.prog 139 #[.agg #[.int .i64 width, .slice E ne ce, .slice R nr cr, .slice H nh ch, .int .i64 z1, .slice A1 m1 c1, .int .i64 z2, .slice A2 m2 c2, .int .i64 h.num, .int .i64 h.size, .string h.root, .int .i64 h.taken, .string h.troot], .int .i64 f] w fun e w' => e = .returned (.string (framesM (fileL width es rs hs f))) ∧ Below w.heap.size w w' := by
 have hfl := fileL_le (width := width) (es := es) (rs := rs) (hs := hs) (by omega) (by omega) (by omega)
 have HF0 := Lib.hid hfe
 have HF2 := Lib.hid hfr
 have HF1 := Lib.hid hfh
 have HN0 := Lib.hid hne
 have HN1 := Lib.hid hnh
 have HN2 := Lib.hid hnr
 have HE0 := Lib.hid hE.base
 have HR0 := Lib.hid hR.base
 have HH0 := Lib.hid hH.base
 obtain ⟨nh1, hnh1, hnh2⟩ : ∃ n, n + 1 ≤ nh ∧ nh ≤ n + 1 := ⟨nh - 1, by omega, by omega⟩
 have hnx : nh - 1 = nh1 := by omega
 obtain rfl | rfl | rfl : f = 0 ∨ f = 1 ∨ f = 2 := by omega
 ·skip
  have hLd : fileL width es rs hs 0 = es.map leafTextM := rfl
  have hLl : (fileL width es rs hs 0).length = ne := by rw [hLd, List.length_map, hne]
  have HFR := Lib.hid (fun W A c (r : Rd W 0 W.heap.size A (strs (fileL width es rs hs 0))) => specFrames_c A c 0 W.heap.size ne (fileL width es rs hs 0) W r hLl (by have := hfl 0; omega))
  generalize fileL width es rs hs 0 = L at *
  have HLD := Lib.hid hLd
  have HLL := Lib.hid hLl
  have HB : Hid (Below w.heap.size w w) := Below.refl _ _
  clear hE hR hH hne hnr hnh hch hfe hfr hfh hfl hLd hLl hnx
  change Calls Try.prog 139 #[.agg #[.int .i64 width, .slice E ne ce, .slice R nr cr, .slice H nh ch, .int .i64 z1, .slice A1 m1 c1, .int .i64 z2, .slice A2 m2 c2, .int .i64 h.num, .int .i64 h.size, .string h.root, .int .i64 h.taken, .string h.troot], .int .i64 0] w _
  go_enter Try.func139, Try.ntmps139
  go_wp2
  refine wp_named (fun w1 hw => ?_)
  have hz1 : w.heap.size + 2 ≤ w1.heap.size := by rw [hw]; first | omega | (simp [World.setCell]; done) | (simp [World.setCell]; omega)
  have hzz1 : w.heap.size ≤ w1.heap.size := by omega
  have hbn : Below w.heap.size w w1 := by rw [hw]; exact (by ((repeat (first | ((with_reducible refine Below.alloc ?_ ?_ _); rotate_left 1; (focus (first | omega | (simp; done) | (simp; omega)))) | (with_reducible refine Below.drew ?_) | ((with_reducible refine Below.setCell ?_ ?_ _); rotate_left 1; (focus (first | omega | (simp; done) | (simp; omega)))))); exact Below.refl _ _))
  replace HB := Lib.hid (below_then HB.out hbn HB.out.size)
  clear hbn
  have HXb : Hid (NewBox w1 (w.heap.size) [.int .i64 width, .slice E ne ce, .slice R nr cr, .slice H nh ch, .int .i64 z1, .slice A1 m1 c1, .int .i64 z2, .slice A2 m2 c2, .int .i64 h.num, .int .i64 h.size, .string h.root, .int .i64 h.taken, .string h.troot]) := by rw [Hid, hw]; exact ⟨by first | omega | (simp [World.setCell]; done) | (simp [World.setCell]; omega), fun o => by rcases o with _ | _ | _ | _ | _ | _ | _ | _ | _ | _ | _ | _ | _ | o <;> go_simp, fun o => by go_simp⟩
  have hxb := HXb.out.2.1
  have hfb := HXb.out.2.2
  have hkb := HXb.out.1
  have HXe1 : Hid (NewBox w1 (w.heap.size + 1) []) := by rw [Hid, hw]; exact ⟨by first | omega | (simp [World.setCell]; done) | (simp [World.setCell]; omega), fun o => by rcases o with o <;> go_simp, fun o => by go_simp⟩
  have hxe1 := HXe1.out.2.1
  have hfe1 := HXe1.out.2.2
  have hke1 := HXe1.out.1
  have HROW : Hid (RowB w1 (w.heap.size + 1) w1.heap.size (.slice (some ⟨w.heap.size + 1, 0, none⟩) 0 0, 0) (strs (L.take 0))) := by
   rw [Hid, hw]; exact RowB.of (by simpa [strs] using row_made (w.alloc _) 9 0)
  clear hw
  go_loopw [5, 6] (fun v i wr => ∃ (k : Nat) (X : Option Addr) (g : Nat), k ≤ ne ∧ i = .int .i64 k ∧ v = .slice X k g ∧ NewBox wr ((w.heap.size)) [.int .i64 width, .slice E ne ce, .slice R nr cr, .slice H nh ch, .int .i64 z1, .slice A1 m1 c1, .int .i64 z2, .slice A2 m2 c2, .int .i64 h.num, .int .i64 h.size, .string h.root, .int .i64 h.taken, .string h.troot] ∧ RowB wr (w.heap.size + 1) wr.heap.size (.slice X k g, k) (strs (L.take k)) ∧ Below w.heap.size w wr ∧ w1.heap.size ≤ wr.heap.size) (fun _ i _ => nh + ne - (intOf i).toNat)
  case atStart => exact ⟨0, _, 0, Nat.zero_le _, rfl, rfl, HXb.out, HROW.out, HB.out, Nat.le_refl _⟩
  case round =>
   obtain ⟨k, X, g, hk, rfl, rfl, hbb, hrw, hbl, hzl⟩ := hrel
   have HBL := Lib.hid hbl
   replace HB : Hid (Below w.heap.size w wr) := HBL.out
   replace HXb : Hid (NewBox wr (w.heap.size) [.int .i64 width, .slice E ne ce, .slice R nr cr, .slice H nh ch, .int .i64 z1, .slice A1 m1 c1, .int .i64 z2, .slice A2 m2 c2, .int .i64 h.num, .int .i64 h.size, .string h.root, .int .i64 h.taken, .string h.troot]) := hbb
   clear hxb hfb hkb
   have hxb := HXb.out.2.1
   have hfb := HXb.out.2.2
   have hkb := HXb.out.1
   have HOA : Hid (RowB wr (w.heap.size + 1) (wr.heap.size) (.slice X k g, k) (strs (L.take k))) := Lib.hid hrw
   have HOE := Lib.hid (HE0.out.below HBL.out)
   clear hxe1 hfe1 hke1 HXe1
   have hzz_wr : w.heap.size ≤ wr.heap.size := HB.out.size
   clear hbb hrw hbl HROW
   by_cases hlt : k < ne
   ·skip
    obtain ⟨b2, off, x, hEe, hb2, hks, hcs⟩ := ent_cells HOE.out (k := k) (by rw [HN0.out]; omega)
    have c0' := hcs.1
    have c1' := hcs.2.1
    have c2' := hcs.2.2.1
    have c3' := hcs.2.2.2.1
    have c4' := hcs.2.2.2.2
    have hix := idxEnt E b2 off ne ce k hEe (by omega)
    have HT : Hid (L.take (k + 1) = L.take k ++ [leafTextM x]) := Lib.hid (take_succ (by rw [HLD.out, List.getElem?_map, hks]; rfl))
    have HX := Lib.hid (fun W => specLeafText_c x W (HF0.out x (List.mem_of_getElem? hks)))
    have hI : (k : Int) < ne := by omega
    clear hks hcs hEe
    generalize leafTextM x = lt at *
    generalize entryOk x = lk at *
    clear HOE
    go_wp2_with fail
    refine calls_named (fun w2 hw => ?_)
    have hz2 : wr.heap.size + 0 ≤ w2.heap.size := by rw [hw]; first | omega | (simp [World.setCell]; done) | (simp [World.setCell]; omega)
    have hzz2 : w.heap.size ≤ w2.heap.size := by omega
    have hbn : Below wr.heap.size wr w2 := by rw [hw]; exact (by ((repeat (first | ((with_reducible refine Below.alloc ?_ ?_ _); rotate_left 1; (focus (first | omega | (simp; done) | (simp; omega)))) | (with_reducible refine Below.drew ?_) | ((with_reducible refine Below.setCell ?_ ?_ _); rotate_left 1; (focus (first | omega | (simp; done) | (simp; omega)))))); exact Below.refl _ _))
    replace HB := Lib.hid (below_then HB.out hbn HB.out.size)
    replace HOA := Lib.hid (HOA.out.below hbn)
    replace HXb := Lib.hid (HXb.out.below hbn)
    clear hxb hfb hkb
    have hxb := HXb.out.2.1
    have hfb := HXb.out.2.2
    have hkb := HXb.out.1
    clear hbn
    clear hw
    refine (HX.out _).mono ?_
    rintro e w3 ⟨rfl, hb⟩
    have hzw3 : w2.heap.size ≤ w3.heap.size := hb.size
    have hzzw3 : w.heap.size ≤ w3.heap.size := by omega
    replace HB := Lib.hid (below_then HB.out hb HB.out.size)
    replace HOA := Lib.hid (HOA.out.below hb)
    replace HXb := Lib.hid (HXb.out.below hb)
    clear hxb hfb hkb
    have hxb := HXb.out.2.1
    have hfb := HXb.out.2.2
    have hkb := HXb.out.1
    clear hb
    clear c0' c1' c2' c3' c4' hix
    go_wp2_with (at_builtin; refine app1Str rfl _ _ rfl (w.heap.size + 1) _ _ _ rfl (HOA.out.1.alloc _) w3.heap.size lt rfl (NewBox.new w3 _ _) (by omega) (by first | omega | (simp; done) | (simp; omega)) ?_)
    intro v2 w2_ hown2 hg2
    obtain ⟨hrb, hon⟩ := rowB_app HOA.out.1 _ hown2 hg2
    obtain ⟨A9, g9, rfl, _, _, _⟩ := ownsRow_slice hown2
    rw [← strs_app, ← HT.out] at hrb
    have hzw2_ : w3.heap.size ≤ w2_.heap.size := hon.size
    have hzzw2_ : w.heap.size ≤ w2_.heap.size := by omega
    replace HB := Lib.hid (below_only HB.out hon (by omega) HB.out.size)
    replace HXb := Lib.hid (HXb.out.only hon (by first | omega | (simp; omega)))
    clear hxb hfb hkb
    have hxb := HXb.out.2.1
    have hfb := HXb.out.2.2
    have hkb := HXb.out.1
    clear HOA
    have HOA : Hid (RowB w2_ (w.heap.size + 1) (w2_.heap.size) (.slice A9 (k + 1) g9, k + 1) (strs (L.take (k + 1)))) := Lib.hid hrb
    clear hown2 hg2 hrb hon
    go_wp2
    go_roundw
    case rel => exact ⟨k + 1, A9, g9, by omega, by go_num, rfl, HXb.out, HOA.out, HB.out, by omega⟩
    case measure => simp [intOf]; omega
   ·skip
    obtain rfl : ne = k := by omega
    have HXX := Lib.hid HOA.out
    rw [show L.take ne = L from List.take_of_length_le (by rw [HLL.out]; exact Nat.le_refl _)] at HXX
    clear HOA
    clear HOE
    have HOA : Hid (RowB wr (w.heap.size + 1) (wr.heap.size) (.slice X ne g, ne) (strs L)) := HXX
    clear HXX
    go_wp2
    all_goals rcases Nat.lt_or_ge 1 nh with hz1 | hz1
    all_goals
     first | have hd1 : decide ((1 : Int) < (nh : Int)) = true := decide_eq_true (by omega) | have hd1 : decide ((1 : Int) < (nh : Int)) = false := decide_eq_false (by omega)
     refine wp_loop_once ?_
     go_wp2
     clear hd1 hz1
    all_goals rcases Nat.lt_or_ge 0 nr with hz2 | hz2
    all_goals
     first | have hd2 : decide ((0 : Int) < (nr : Int)) = true := decide_eq_true (by omega) | have hd2 : decide ((0 : Int) < (nr : Int)) = false := decide_eq_false (by omega)
     refine wp_loop_once ?_
     go_wp2_with fail
     clear hd2 hz2
    all_goals
     refine calls_named (fun w2 hw => ?_)
     have hz2 : wr.heap.size + 0 ≤ w2.heap.size := by rw [hw]; first | omega | (simp [World.setCell]; done) | (simp [World.setCell]; omega)
     have hzz2 : w.heap.size ≤ w2.heap.size := by omega
     have hbn : Below wr.heap.size wr w2 := by rw [hw]; exact (by ((repeat (first | ((with_reducible refine Below.alloc ?_ ?_ _); rotate_left 1; (focus (first | omega | (simp; done) | (simp; omega)))) | (with_reducible refine Below.drew ?_) | ((with_reducible refine Below.setCell ?_ ?_ _); rotate_left 1; (focus (first | omega | (simp; done) | (simp; omega)))))); exact Below.refl _ _))
     replace HB := Lib.hid (below_then HB.out hbn HB.out.size)
     replace HOA := Lib.hid (HOA.out.below hbn)
     replace HXb := Lib.hid (HXb.out.below hbn)
     clear hxb hfb hkb
     have hxb := HXb.out.2.1
     have hfb := HXb.out.2.2
     have hkb := HXb.out.1
     clear hbn
     clear hw
     refine (HFR.out _ _ _ (HOA.out.ownB rfl (by omega) (by omega)).rd.base).mono ?_
     rintro e w3 ⟨rfl, hb⟩
     have hzw3 : w2.heap.size ≤ w3.heap.size := hb.size
     have hzzw3 : w.heap.size ≤ w3.heap.size := by omega
     replace HB := Lib.hid (below_then HB.out hb HB.out.size)
     replace HOA := Lib.hid (HOA.out.below hb)
     replace HXb := Lib.hid (HXb.out.below hb)
     clear hxb hfb hkb
     have hxb := HXb.out.2.1
     have hfb := HXb.out.2.2
     have hkb := HXb.out.1
     clear hb
     go_wp2
     go_ret
     exact ⟨rfl, HB.out⟩
 ·skip
  have hLd : fileL width es rs hs 1 = (hs.drop 1).map (headTextM width) := rfl
  have hLl : (fileL width es rs hs 1).length = nh1 := by rw [hLd, List.length_map, List.length_drop, hnh]; exact hnx
  have HFR := Lib.hid (fun W A c (r : Rd W 0 W.heap.size A (strs (fileL width es rs hs 1))) => specFrames_c A c 0 W.heap.size nh1 (fileL width es rs hs 1) W r hLl (by have := hfl 1; omega))
  generalize fileL width es rs hs 1 = L at *
  have HLD := Lib.hid hLd
  have HLL := Lib.hid hLl
  have HB : Hid (Below w.heap.size w w) := Below.refl _ _
  clear hE hR hH hne hnr hnh hch hfe hfr hfh hfl hLd hLl hnx
  change Calls Try.prog 139 #[.agg #[.int .i64 width, .slice E ne ce, .slice R nr cr, .slice H nh ch, .int .i64 z1, .slice A1 m1 c1, .int .i64 z2, .slice A2 m2 c2, .int .i64 h.num, .int .i64 h.size, .string h.root, .int .i64 h.taken, .string h.troot], .int .i64 1] w _
  go_enter Try.func139, Try.ntmps139
  go_wp2
  refine wp_named (fun w1 hw => ?_)
  have hz1 : w.heap.size + 2 ≤ w1.heap.size := by rw [hw]; first | omega | (simp [World.setCell]; done) | (simp [World.setCell]; omega)
  have hzz1 : w.heap.size ≤ w1.heap.size := by omega
  have hbn : Below w.heap.size w w1 := by rw [hw]; exact (by ((repeat (first | ((with_reducible refine Below.alloc ?_ ?_ _); rotate_left 1; (focus (first | omega | (simp; done) | (simp; omega)))) | (with_reducible refine Below.drew ?_) | ((with_reducible refine Below.setCell ?_ ?_ _); rotate_left 1; (focus (first | omega | (simp; done) | (simp; omega)))))); exact Below.refl _ _))
  replace HB := Lib.hid (below_then HB.out hbn HB.out.size)
  clear hbn
  have HXb : Hid (NewBox w1 (w.heap.size) [.int .i64 width, .slice E ne ce, .slice R nr cr, .slice H nh ch, .int .i64 z1, .slice A1 m1 c1, .int .i64 z2, .slice A2 m2 c2, .int .i64 h.num, .int .i64 h.size, .string h.root, .int .i64 h.taken, .string h.troot]) := by rw [Hid, hw]; exact ⟨by first | omega | (simp [World.setCell]; done) | (simp [World.setCell]; omega), fun o => by rcases o with _ | _ | _ | _ | _ | _ | _ | _ | _ | _ | _ | _ | _ | o <;> go_simp, fun o => by go_simp⟩
  have hxb := HXb.out.2.1
  have hfb := HXb.out.2.2
  have hkb := HXb.out.1
  have HXe1 : Hid (NewBox w1 (w.heap.size + 1) []) := by rw [Hid, hw]; exact ⟨by first | omega | (simp [World.setCell]; done) | (simp [World.setCell]; omega), fun o => by rcases o with o <;> go_simp, fun o => by go_simp⟩
  have hxe1 := HXe1.out.2.1
  have hfe1 := HXe1.out.2.2
  have hke1 := HXe1.out.1
  have HROW : Hid (RowB w1 (w.heap.size + 1) w1.heap.size (.slice (some ⟨w.heap.size + 1, 0, none⟩) 0 0, 0) (strs (L.take 0))) := by
   rw [Hid, hw]; exact RowB.of (by simpa [strs] using row_made (w.alloc _) 9 0)
  clear hw
  all_goals rcases Nat.lt_or_ge 0 ne with hz0 | hz0
  all_goals
   first | have hd0 : decide ((0 : Int) < (ne : Int)) = true := decide_eq_true (by omega) | have hd0 : decide ((0 : Int) < (ne : Int)) = false := decide_eq_false (by omega)
   refine wp_loop_once ?_
   go_wp2
   clear hd0 hz0
  all_goals
   go_loopw [5, 9] (fun v i wr => ∃ (k : Nat) (q : Nat) (X : Option Addr) (g : Nat), k ≤ nh1 ∧ k + 1 ≤ q ∧ q ≤ k + 1 ∧ i = .int .i64 q ∧ v = .slice X k g ∧ NewBox wr ((w.heap.size)) [.int .i64 width, .slice E ne ce, .slice R nr cr, .slice H nh ch, .int .i64 z1, .slice A1 m1 c1, .int .i64 z2, .slice A2 m2 c2, .int .i64 h.num, .int .i64 h.size, .string h.root, .int .i64 h.taken, .string h.troot] ∧ RowB wr (w.heap.size + 1) wr.heap.size (.slice X k g, k) (strs (L.take k)) ∧ Below w.heap.size w wr ∧ w1.heap.size ≤ wr.heap.size) (fun _ i _ => nh + nh1 - (intOf i).toNat)
   case atStart => exact ⟨0, 1, _, 0, Nat.zero_le _, Nat.le_refl _, Nat.le_refl _, rfl, rfl, HXb.out, HROW.out, HB.out, Nat.le_refl _⟩
   case round =>
    obtain ⟨k, q, X, g, hk, hq1, hq2, rfl, rfl, hbb, hrw, hbl, hzl⟩ := hrel
    have HBL := Lib.hid hbl
    replace HB : Hid (Below w.heap.size w wr) := HBL.out
    replace HXb : Hid (NewBox wr (w.heap.size) [.int .i64 width, .slice E ne ce, .slice R nr cr, .slice H nh ch, .int .i64 z1, .slice A1 m1 c1, .int .i64 z2, .slice A2 m2 c2, .int .i64 h.num, .int .i64 h.size, .string h.root, .int .i64 h.taken, .string h.troot]) := hbb
    clear hxb hfb hkb
    have hxb := HXb.out.2.1
    have hfb := HXb.out.2.2
    have hkb := HXb.out.1
    have HOA : Hid (RowB wr (w.heap.size + 1) (wr.heap.size) (.slice X k g, k) (strs (L.take k))) := Lib.hid hrw
    have HOH := Lib.hid (HH0.out.below HBL.out)
    clear hxe1 hfe1 hke1 HXe1
    have hzz_wr : w.heap.size ≤ wr.heap.size := HB.out.size
    clear hbb hrw hbl HROW
    by_cases hlt : k < nh1
    ·skip
     obtain ⟨b2, off, x, hHe, hb2, hks, hcs⟩ := hd_cells HOH.out (k := q) (by rw [HN1.out]; omega)
     have c0' := hcs.1
     have c1' := hcs.2.1
     have c2' := hcs.2.2.1
     have c3' := hcs.2.2.2.1
     have c4' := hcs.2.2.2.2
     have hix := idxHd H b2 off nh ch q hHe (by omega)
     have HT : Hid (L.take (k + 1) = L.take k ++ [headTextM width x]) := Lib.hid (take_succ (by rw [HLD.out, List.getElem?_map, List.getElem?_drop, show 1 + k = q by omega, hks]; rfl))
     have HX := Lib.hid (fun W => specHeadText_c width x W (HF1.out x (List.mem_of_getElem? hks)))
     have hI : (q : Int) < nh := by omega
     clear hks hcs hHe
     generalize headTextM width x = lt at *
     generalize headOk width x = lk at *
     clear HOH
     go_wp2_with fail
     have lb : ∀ v : Later wr, v.v.cell? ⟨w.heap.size, 0, none⟩ = some (.int .i64 width) := fun v => (later_cell v _ _ hkb).trans (hxb 0)
     have lb3 : ∀ v : Later wr, v.v.cell? ⟨w.heap.size, 3, none⟩ = some (.slice H nh ch) := fun v => (later_cell v _ _ hkb).trans (hxb 3)
     have le0 : ∀ v : Later wr, v.v.cell? ⟨b2, off + q * 5, none⟩ = some (.int .i64 x.num) := fun v => (later_cell v _ _ hb2).trans c0'
     have le1 : ∀ v : Later wr, v.v.cell? ⟨b2, off + q * 5 + 1, none⟩ = some (.int .i64 x.size) := fun v => (later_cell v _ _ hb2).trans c1'
     have le2 : ∀ v : Later wr, v.v.cell? ⟨b2, off + q * 5 + 2, none⟩ = some (.string x.root) := fun v => (later_cell v _ _ hb2).trans c2'
     have le3 : ∀ v : Later wr, v.v.cell? ⟨b2, off + q * 5 + 3, none⟩ = some (.int .i64 x.taken) := fun v => (later_cell v _ _ hb2).trans c3'
     have le4 : ∀ v : Later wr, v.v.cell? ⟨b2, off + q * 5 + 4, none⟩ = some (.string x.troot) := fun v => (later_cell v _ _ hb2).trans c4'
     refine wp_region_later (by kernel_rfl) (by kernel_rfl) ?_
     repeat (go_big_quiet_step ((first | with_reducible exact later_call (HX.out _))))
     refine wpQuiet_nil ?_
     intro w9 h9
     have hb9 := later_below h9
     clear lb lb3 le0 le1 le2 le3 le4 h9
     have hzw9 : wr.heap.size ≤ w9.heap.size := hb9.size
     have hzzw9 : w.heap.size ≤ w9.heap.size := by omega
     replace HB := Lib.hid (below_then HB.out hb9 HB.out.size)
     replace HOA := Lib.hid (HOA.out.below hb9)
     replace HXb := Lib.hid (HXb.out.below hb9)
     clear hxb hfb hkb
     have hxb := HXb.out.2.1
     have hfb := HXb.out.2.2
     have hkb := HXb.out.1
     clear hb9
     clear c0' c1' c2' c3' c4' hix
     go_wp2_with (at_builtin; refine app1Str rfl _ _ rfl (w.heap.size + 1) _ _ _ rfl (HOA.out.1.alloc _) w9.heap.size lt rfl (NewBox.new w9 _ _) (by omega) (by first | omega | (simp; done) | (simp; omega)) ?_)
     intro v2 w2_ hown2 hg2
     obtain ⟨hrb, hon⟩ := rowB_app HOA.out.1 _ hown2 hg2
     obtain ⟨A9, g9, rfl, _, _, _⟩ := ownsRow_slice hown2
     rw [← strs_app, ← HT.out] at hrb
     have hzw2_ : w9.heap.size ≤ w2_.heap.size := hon.size
     have hzzw2_ : w.heap.size ≤ w2_.heap.size := by omega
     replace HB := Lib.hid (below_only HB.out hon (by omega) HB.out.size)
     replace HXb := Lib.hid (HXb.out.only hon (by first | omega | (simp; omega)))
     clear hxb hfb hkb
     have hxb := HXb.out.2.1
     have hfb := HXb.out.2.2
     have hkb := HXb.out.1
     clear HOA
     have HOA : Hid (RowB w2_ (w.heap.size + 1) (w2_.heap.size) (.slice A9 (k + 1) g9, k + 1) (strs (L.take (k + 1)))) := Lib.hid hrb
     clear hown2 hg2 hrb hon
     go_wp2
     go_roundw
     case rel => exact ⟨k + 1, q + 1, A9, g9, by omega, by omega, by omega, by go_num, rfl, HXb.out, HOA.out, HB.out, by omega⟩
     case measure => simp [intOf]; omega
    ·skip
     obtain rfl : nh1 = k := by omega
     have HXX := Lib.hid HOA.out
     rw [show L.take nh1 = L from List.take_of_length_le (by rw [HLL.out]; exact Nat.le_refl _)] at HXX
     clear HOA
     clear HOH
     have HOA : Hid (RowB wr (w.heap.size + 1) (wr.heap.size) (.slice X nh1 g, nh1) (strs L)) := HXX
     clear HXX
     go_wp2
     all_goals rcases Nat.lt_or_ge 0 nr with hz2 | hz2
     all_goals
      first | have hd2 : decide ((0 : Int) < (nr : Int)) = true := decide_eq_true (by omega) | have hd2 : decide ((0 : Int) < (nr : Int)) = false := decide_eq_false (by omega)
      refine wp_loop_once ?_
      go_wp2_with fail
      clear hd2 hz2
     all_goals
      refine calls_named (fun w2 hw => ?_)
      have hz2 : wr.heap.size + 0 ≤ w2.heap.size := by rw [hw]; first | omega | (simp [World.setCell]; done) | (simp [World.setCell]; omega)
      have hzz2 : w.heap.size ≤ w2.heap.size := by omega
      have hbn : Below wr.heap.size wr w2 := by rw [hw]; exact (by ((repeat (first | ((with_reducible refine Below.alloc ?_ ?_ _); rotate_left 1; (focus (first | omega | (simp; done) | (simp; omega)))) | (with_reducible refine Below.drew ?_) | ((with_reducible refine Below.setCell ?_ ?_ _); rotate_left 1; (focus (first | omega | (simp; done) | (simp; omega)))))); exact Below.refl _ _))
      replace HB := Lib.hid (below_then HB.out hbn HB.out.size)
      replace HOA := Lib.hid (HOA.out.below hbn)
      replace HXb := Lib.hid (HXb.out.below hbn)
      clear hxb hfb hkb
      have hxb := HXb.out.2.1
      have hfb := HXb.out.2.2
      have hkb := HXb.out.1
      clear hbn
      clear hw
      refine (HFR.out _ _ _ (HOA.out.ownB rfl (by omega) (by omega)).rd.base).mono ?_
      rintro e w3 ⟨rfl, hb⟩
      have hzw3 : w2.heap.size ≤ w3.heap.size := hb.size
      have hzzw3 : w.heap.size ≤ w3.heap.size := by omega
      replace HB := Lib.hid (below_then HB.out hb HB.out.size)
      replace HOA := Lib.hid (HOA.out.below hb)
      replace HXb := Lib.hid (HXb.out.below hb)
      clear hxb hfb hkb
      have hxb := HXb.out.2.1
      have hfb := HXb.out.2.2
      have hkb := HXb.out.1
      clear hb
      go_wp2
      go_ret
      exact ⟨rfl, HB.out⟩
 ·skip
  have hLd : fileL width es rs hs 2 = rs.map rcpTextM := rfl
  have hLl : (fileL width es rs hs 2).length = nr := by rw [hLd, List.length_map, hnr]
  have HFR := Lib.hid (fun W A c (r : Rd W 0 W.heap.size A (strs (fileL width es rs hs 2))) => specFrames_c A c 0 W.heap.size nr (fileL width es rs hs 2) W r hLl (by have := hfl 2; omega))
  generalize fileL width es rs hs 2 = L at *
  have HLD := Lib.hid hLd
  have HLL := Lib.hid hLl
  have HB : Hid (Below w.heap.size w w) := Below.refl _ _
  clear hE hR hH hne hnr hnh hch hfe hfr hfh hfl hLd hLl hnx
  change Calls Try.prog 139 #[.agg #[.int .i64 width, .slice E ne ce, .slice R nr cr, .slice H nh ch, .int .i64 z1, .slice A1 m1 c1, .int .i64 z2, .slice A2 m2 c2, .int .i64 h.num, .int .i64 h.size, .string h.root, .int .i64 h.taken, .string h.troot], .int .i64 2] w _
  go_enter Try.func139, Try.ntmps139
  go_wp2
  refine wp_named (fun w1 hw => ?_)
  have hz1 : w.heap.size + 2 ≤ w1.heap.size := by rw [hw]; first | omega | (simp [World.setCell]; done) | (simp [World.setCell]; omega)
  have hzz1 : w.heap.size ≤ w1.heap.size := by omega
  have hbn : Below w.heap.size w w1 := by rw [hw]; exact (by ((repeat (first | ((with_reducible refine Below.alloc ?_ ?_ _); rotate_left 1; (focus (first | omega | (simp; done) | (simp; omega)))) | (with_reducible refine Below.drew ?_) | ((with_reducible refine Below.setCell ?_ ?_ _); rotate_left 1; (focus (first | omega | (simp; done) | (simp; omega)))))); exact Below.refl _ _))
  replace HB := Lib.hid (below_then HB.out hbn HB.out.size)
  clear hbn
  have HXb : Hid (NewBox w1 (w.heap.size) [.int .i64 width, .slice E ne ce, .slice R nr cr, .slice H nh ch, .int .i64 z1, .slice A1 m1 c1, .int .i64 z2, .slice A2 m2 c2, .int .i64 h.num, .int .i64 h.size, .string h.root, .int .i64 h.taken, .string h.troot]) := by rw [Hid, hw]; exact ⟨by first | omega | (simp [World.setCell]; done) | (simp [World.setCell]; omega), fun o => by rcases o with _ | _ | _ | _ | _ | _ | _ | _ | _ | _ | _ | _ | _ | o <;> go_simp, fun o => by go_simp⟩
  have hxb := HXb.out.2.1
  have hfb := HXb.out.2.2
  have hkb := HXb.out.1
  have HXe1 : Hid (NewBox w1 (w.heap.size + 1) []) := by rw [Hid, hw]; exact ⟨by first | omega | (simp [World.setCell]; done) | (simp [World.setCell]; omega), fun o => by rcases o with o <;> go_simp, fun o => by go_simp⟩
  have hxe1 := HXe1.out.2.1
  have hfe1 := HXe1.out.2.2
  have hke1 := HXe1.out.1
  have HROW : Hid (RowB w1 (w.heap.size + 1) w1.heap.size (.slice (some ⟨w.heap.size + 1, 0, none⟩) 0 0, 0) (strs (L.take 0))) := by
   rw [Hid, hw]; exact RowB.of (by simpa [strs] using row_made (w.alloc _) 9 0)
  clear hw
  all_goals rcases Nat.lt_or_ge 0 ne with hz0 | hz0
  all_goals
   first | have hd0 : decide ((0 : Int) < (ne : Int)) = true := decide_eq_true (by omega) | have hd0 : decide ((0 : Int) < (ne : Int)) = false := decide_eq_false (by omega)
   refine wp_loop_once ?_
   go_wp2
   clear hd0 hz0
  all_goals rcases Nat.lt_or_ge 1 nh with hz1 | hz1
  all_goals
   first | have hd1 : decide ((1 : Int) < (nh : Int)) = true := decide_eq_true (by omega) | have hd1 : decide ((1 : Int) < (nh : Int)) = false := decide_eq_false (by omega)
   refine wp_loop_once ?_
   go_wp2
   clear hd1 hz1
  all_goals
   go_loopw [5, 12] (fun v i wr => ∃ (k : Nat) (X : Option Addr) (g : Nat), k ≤ nr ∧ i = .int .i64 k ∧ v = .slice X k g ∧ NewBox wr ((w.heap.size)) [.int .i64 width, .slice E ne ce, .slice R nr cr, .slice H nh ch, .int .i64 z1, .slice A1 m1 c1, .int .i64 z2, .slice A2 m2 c2, .int .i64 h.num, .int .i64 h.size, .string h.root, .int .i64 h.taken, .string h.troot] ∧ RowB wr (w.heap.size + 1) wr.heap.size (.slice X k g, k) (strs (L.take k)) ∧ Below w.heap.size w wr ∧ w1.heap.size ≤ wr.heap.size) (fun _ i _ => nh + nr - (intOf i).toNat)
   case atStart => exact ⟨0, _, 0, Nat.zero_le _, rfl, rfl, HXb.out, HROW.out, HB.out, Nat.le_refl _⟩
   case round =>
    obtain ⟨k, X, g, hk, rfl, rfl, hbb, hrw, hbl, hzl⟩ := hrel
    have HBL := Lib.hid hbl
    replace HB : Hid (Below w.heap.size w wr) := HBL.out
    replace HXb : Hid (NewBox wr (w.heap.size) [.int .i64 width, .slice E ne ce, .slice R nr cr, .slice H nh ch, .int .i64 z1, .slice A1 m1 c1, .int .i64 z2, .slice A2 m2 c2, .int .i64 h.num, .int .i64 h.size, .string h.root, .int .i64 h.taken, .string h.troot]) := hbb
    clear hxb hfb hkb
    have hxb := HXb.out.2.1
    have hfb := HXb.out.2.2
    have hkb := HXb.out.1
    have HOA : Hid (RowB wr (w.heap.size + 1) (wr.heap.size) (.slice X k g, k) (strs (L.take k))) := Lib.hid hrw
    have HOR := Lib.hid (HR0.out.below HBL.out)
    clear hxe1 hfe1 hke1 HXe1
    have hzz_wr : w.heap.size ≤ wr.heap.size := HB.out.size
    clear hbb hrw hbl HROW
    by_cases hlt : k < nr
    ·skip
     obtain ⟨b2, off, x, hRe, hb2, hks, hcs⟩ := rcp_cells HOR.out (k := k) (by rw [HN2.out]; omega)
     have c0' := hcs.1
     have c1' := hcs.2.1
     have c2' := hcs.2.2
     have hix := idxRcp R b2 off nr cr k hRe (by omega)
     have HT : Hid (L.take (k + 1) = L.take k ++ [rcpTextM x]) := Lib.hid (take_succ (by rw [HLD.out, List.getElem?_map, hks]; rfl))
     have HX := Lib.hid (fun W => specReceiptText_c x W (HF2.out x (List.mem_of_getElem? hks)))
     have hI : (k : Int) < nr := by omega
     clear hks hcs hRe
     generalize rcpTextM x = lt at *
     generalize rcpOk x = lk at *
     clear HOR
     go_wp2_with fail
     refine calls_named (fun w2 hw => ?_)
     have hz2 : wr.heap.size + 0 ≤ w2.heap.size := by rw [hw]; first | omega | (simp [World.setCell]; done) | (simp [World.setCell]; omega)
     have hzz2 : w.heap.size ≤ w2.heap.size := by omega
     have hbn : Below wr.heap.size wr w2 := by rw [hw]; exact (by ((repeat (first | ((with_reducible refine Below.alloc ?_ ?_ _); rotate_left 1; (focus (first | omega | (simp; done) | (simp; omega)))) | (with_reducible refine Below.drew ?_) | ((with_reducible refine Below.setCell ?_ ?_ _); rotate_left 1; (focus (first | omega | (simp; done) | (simp; omega)))))); exact Below.refl _ _))
     replace HB := Lib.hid (below_then HB.out hbn HB.out.size)
     replace HOA := Lib.hid (HOA.out.below hbn)
     replace HXb := Lib.hid (HXb.out.below hbn)
     clear hxb hfb hkb
     have hxb := HXb.out.2.1
     have hfb := HXb.out.2.2
     have hkb := HXb.out.1
     clear hbn
     clear hw
     refine (HX.out _).mono ?_
     rintro e w3 ⟨rfl, hb⟩
     have hzw3 : w2.heap.size ≤ w3.heap.size := hb.size
     have hzzw3 : w.heap.size ≤ w3.heap.size := by omega
     replace HB := Lib.hid (below_then HB.out hb HB.out.size)
     replace HOA := Lib.hid (HOA.out.below hb)
     replace HXb := Lib.hid (HXb.out.below hb)
     clear hxb hfb hkb
     have hxb := HXb.out.2.1
     have hfb := HXb.out.2.2
     have hkb := HXb.out.1
     clear hb
     clear c0' c1' c2' hix
     go_wp2_with (at_builtin; refine app1Str rfl _ _ rfl (w.heap.size + 1) _ _ _ rfl (HOA.out.1.alloc _) w3.heap.size lt rfl (NewBox.new w3 _ _) (by omega) (by first | omega | (simp; done) | (simp; omega)) ?_)
     intro v2 w2_ hown2 hg2
     obtain ⟨hrb, hon⟩ := rowB_app HOA.out.1 _ hown2 hg2
     obtain ⟨A9, g9, rfl, _, _, _⟩ := ownsRow_slice hown2
     rw [← strs_app, ← HT.out] at hrb
     have hzw2_ : w3.heap.size ≤ w2_.heap.size := hon.size
     have hzzw2_ : w.heap.size ≤ w2_.heap.size := by omega
     replace HB := Lib.hid (below_only HB.out hon (by omega) HB.out.size)
     replace HXb := Lib.hid (HXb.out.only hon (by first | omega | (simp; omega)))
     clear hxb hfb hkb
     have hxb := HXb.out.2.1
     have hfb := HXb.out.2.2
     have hkb := HXb.out.1
     clear HOA
     have HOA : Hid (RowB w2_ (w.heap.size + 1) (w2_.heap.size) (.slice A9 (k + 1) g9, k + 1) (strs (L.take (k + 1)))) := Lib.hid hrb
     clear hown2 hg2 hrb hon
     go_wp2
     go_roundw
     case rel => exact ⟨k + 1, A9, g9, by omega, by go_num, rfl, HXb.out, HOA.out, HB.out, by omega⟩
     case measure => simp [intOf]; omega
    ·skip
     obtain rfl : nr = k := by omega
     have HXX := Lib.hid HOA.out
     rw [show L.take nr = L from List.take_of_length_le (by rw [HLL.out]; exact Nat.le_refl _)] at HXX
     clear HOA
     clear HOR
     have HOA : Hid (RowB wr (w.heap.size + 1) (wr.heap.size) (.slice X nr g, nr) (strs L)) := HXX
     clear HXX
     go_wp2_with fail
     all_goals
      refine calls_named (fun w2 hw => ?_)
      have hz2 : wr.heap.size + 0 ≤ w2.heap.size := by rw [hw]; first | omega | (simp [World.setCell]; done) | (simp [World.setCell]; omega)
      have hzz2 : w.heap.size ≤ w2.heap.size := by omega
      have hbn : Below wr.heap.size wr w2 := by rw [hw]; exact (by ((repeat (first | ((with_reducible refine Below.alloc ?_ ?_ _); rotate_left 1; (focus (first | omega | (simp; done) | (simp; omega)))) | (with_reducible refine Below.drew ?_) | ((with_reducible refine Below.setCell ?_ ?_ _); rotate_left 1; (focus (first | omega | (simp; done) | (simp; omega)))))); exact Below.refl _ _))
      replace HB := Lib.hid (below_then HB.out hbn HB.out.size)
      replace HOA := Lib.hid (HOA.out.below hbn)
      replace HXb := Lib.hid (HXb.out.below hbn)
      clear hxb hfb hkb
      have hxb := HXb.out.2.1
      have hfb := HXb.out.2.2
      have hkb := HXb.out.1
      clear hbn
      clear hw
      refine (HFR.out _ _ _ (HOA.out.ownB rfl (by omega) (by omega)).rd.base).mono ?_
      rintro e w3 ⟨rfl, hb⟩
      have hzw3 : w2.heap.size ≤ w3.heap.size := hb.size
      have hzzw3 : w.heap.size ≤ w3.heap.size := by omega
      replace HB := Lib.hid (below_then HB.out hb HB.out.size)
      replace HOA := Lib.hid (HOA.out.below hb)
      replace HXb := Lib.hid (HXb.out.below hb)
      clear hxb hfb hkb
      have hxb := HXb.out.2.1
      have hfb := HXb.out.2.2
      have hkb := HXb.out.1
      clear hb
      go_wp2
      go_ret
      exact ⟨rfl, HB.out⟩
end Go.Proofs.Ytoccjgcokffkbaa
