/- Part 2 of the proof of FnDeeds: lemmas and contracts. -/
import Derived.Test.YtoccjgcokffkbaaGreatTd1
import Derived.Still
import Derived.Test.YtoccjgcokffkbaaGreatRows
import Derived.Laws.AppendOwnNone
import Derived.Deep.AppendLies
namespace Go.Proofs.YtoccjgcokffkbaaGreat
set_option linter.unusedVariables false
set_option linter.unusedSimpArgs false
set_option maxHeartbeats 20000000
section
open Go.RowKit
structure Gh where
 v : Value
 s : Nat
 e : Nat
def Gh.no : Gh := ⟨undef, 0, 0⟩
structure Plan where
 D : List (List Nat)
 R : List (List Nat)
 T : List (List Nat)
 z : Option Nat
def Plan.d (p : Plan) (i : Nat) : List Nat := p.D.getD i []
def Plan.r (p : Plan) (i : Nat) : List Nat := p.R.getD i []
def Plan.t (p : Plan) (i : Nat) : List Nat := p.T.getD i []
def Plan.zf (p : Plan) (i : Nat) : Bool := match p.z with
 | none => true
 | some z => i == z || (p.d z).contains i
def dstOf (l : List Oper) (j : Nat) : Option Tmp := (l[j]?).bind (·.dst)
def tgOf (p : Plan) (g : Nat → Gh) (i : Nat) : List Gh := (p.t i).map g
structure OldIs (lo hi : Nat) (full : Prop) (W w : World) : Prop where
 os : w.os = W.os
 tape : w.tape = W.tape
 output : w.output = W.output
 size : W.heap.size ≤ w.heap.size
 block : ∀ k, k < W.heap.size → (full ∨ k < lo ∨ hi ≤ k) → w.heap[k]? = W.heap[k]?
theorem OldIs.below {lo hi : Nat} {full : Prop} {W w : World} (h : OldIs lo hi full W w) (hf : full) : Below W.heap.size W w := ⟨h.os, h.tape, h.output, h.size, fun k hk => h.block k hk (.inl hf)⟩
theorem OldIs.only {lo hi : Nat} {full : Prop} {W w : World} (h : OldIs lo hi full W w) : Only lo hi W w := ⟨h.os, h.tape, h.output, h.size, fun k hk hd => h.block k hk (.inr hd)⟩
theorem OldIs.drew {lo hi : Nat} {full : Prop} {W w : World} (h : OldIs lo hi full W.drew w) : OldIs lo hi full W w := ⟨h.os, h.tape, h.output, h.size, h.block⟩
structure aX (lo hi : Nat) (zz : Prop) (ts : List Gh) (w w' : World) : Prop where
 os : w'.os = w.os
 tape : w'.tape = w.tape
 output : w'.output = w.output
 size : w.heap.size ≤ w'.heap.size
 block : ∀ k, k < w.heap.size → (∀ t ∈ ts, k < t.s ∨ t.e ≤ k) → (zz → k < lo ∨ hi ≤ k) → w'.heap[k]? = w.heap[k]?
section
variable {lo hi : Nat} {zz : Prop} {ts : List Gh} {w w' : World}
theorem aX.of_below (h : Below w.heap.size w w') : aX lo hi zz ts w w' := ⟨h.os, h.tape, h.output, h.size, fun k hk _ _ => h.block k hk⟩
theorem aX.refl (ts : List Gh) (w : World) : aX lo hi zz ts w w := ⟨rfl, rfl, rfl, Nat.le_refl _, fun _ _ _ _ => rfl⟩
theorem aX.of_only {t : Gh} (h : Only t.s t.e w w') : aX lo hi zz [t] w w' := ⟨h.os, h.tape, h.output, h.size, fun k hk hd _ => h.block k hk (hd t List.mem_cons_self)⟩
theorem aX.of_z (h : Only lo hi w w') (hz : zz) : aX lo hi zz ts w w' := ⟨h.os, h.tape, h.output, h.size, fun k hk _ hd => h.block k hk (hd hz)⟩
end
def noSel : Op → Bool
 | .select .. => false
 | _ => true
def opOk (l : List Oper) (p : Plan) (z i : Nat) (o : Oper) : Bool :=
 o.guard.isNone && noSel o.op && o.after.all (fun e => !Region.binds .any e || decide (e.on < i)) &&
 (p.d i).all (fun j => decide (j < i) && (p.d j).all (fun k => (p.d i).contains k) && o.after.any (fun e => Region.binds .any e && (e.on == j || (p.d e.on).contains j))) &&
 (p.r i).all (fun j => (p.d i).contains j) &&
 ((p.t i).all fun t => (p.d i).contains t && (List.range l.length).all (fun k => k == i || !(p.t k).contains t || (p.t i).contains k || (p.t k).contains i)) &&
 o.op.operands.all (fun x => match x with | .tmp t => (List.range l.length).all (fun k => dstOf l k != some t || (p.d i).contains k || (p.d k).contains i) | _ => true) &&
 (match o.dst with | none => true | some d => decide (d < z) && (List.range l.length).all (fun k => k == i || dstOf l k != some d))
def planOk (l : List Oper) (p : Plan) (z : Nat) : Bool := (List.range l.length).all fun i => match l[i]? with | some o => opOk l p z i o | none => false
structure OpOk (l : List Oper) (p : Plan) (z i : Nat) (o : Oper) : Prop where
 guard : o.guard = none
 sel : ∀ cs b, o.op ≠ .select cs b
 after : ∀ e ∈ o.after, Region.binds .any e = true → e.on < i
 lt : ∀ j ∈ p.d i, j < i
 down : ∀ j ∈ p.d i, ∀ k ∈ p.d j, k ∈ p.d i
 just : ∀ j ∈ p.d i, ∃ e ∈ o.after, Region.binds .any e = true ∧ (e.on = j ∨ j ∈ p.d e.on)
 r : ∀ j ∈ p.r i, j ∈ p.d i
 t : ∀ t ∈ p.t i, t ∈ p.d i ∧ ∀ k < l.length, k ≠ i → t ∈ p.t k → k ∈ p.t i ∨ i ∈ p.t k
 opnd : ∀ t, Operand.tmp t ∈ o.op.operands → ∀ k < l.length, dstOf l k = some t → k ∈ p.d i ∨ i ∈ p.d k
 dst : ∀ d, o.dst = some d → d < z ∧ ∀ k < l.length, k ≠ i → dstOf l k ≠ some d
theorem opOk_spec {l : List Oper} {p : Plan} {z i : Nat} {o : Oper} (h : opOk l p z i o = true) : OpOk l p z i o := by
 unfold opOk at h
 simp only [Bool.and_eq_true] at h
 obtain ⟨⟨⟨⟨⟨⟨⟨h1, h2⟩, h3⟩, h4⟩, h5⟩, h6⟩, h7⟩, h8⟩ := h
 refine ⟨by simpa using h1, fun cs b e => (by rw [e] at h2; cases h2), fun e he hb => ?_, fun j hj => ?_, fun j hj k hk => ?_, fun j hj => ?_, fun j hj => ?_, fun t ht => ?_, fun t ht k hk hd => ?_, fun d hd => ?_⟩
 ·have := Array.all_eq_true'.1 h3 e he
  rw [hb] at this
  simpa using this
 ·have := List.all_eq_true.1 h4 j hj
  simp only [Bool.and_eq_true, decide_eq_true_eq] at this
  exact this.1.1
 ·have := List.all_eq_true.1 h4 j hj
  simp only [Bool.and_eq_true] at this
  have := List.all_eq_true.1 this.1.2 k hk
  simpa using this
 ·have := List.all_eq_true.1 h4 j hj
  simp only [Bool.and_eq_true] at this
  obtain ⟨e, he, hh⟩ := Array.any_eq_true'.1 this.2
  simp only [Bool.and_eq_true, Bool.or_eq_true, beq_iff_eq] at hh
  exact ⟨e, he, hh.1, hh.2.imp id (fun q => by simpa using q)⟩
 ·have := List.all_eq_true.1 h5 j hj
  simpa using this
 ·have := List.all_eq_true.1 h6 t ht
  simp only [Bool.and_eq_true] at this
  refine ⟨by simpa using this.1, fun k hk hne hkt => ?_⟩
  have := List.all_eq_true.1 this.2 k (List.mem_range.2 hk)
  simpa [hne, hkt] using this
 ·have := Array.all_eq_true'.1 h7 _ ht
  have := List.all_eq_true.1 this k (List.mem_range.2 hk)
  simpa [hd] using this
 rw [hd] at h8
 simp only [Bool.and_eq_true, decide_eq_true_eq] at h8
 refine ⟨h8.1, fun k hk hne => ?_⟩
 have := List.all_eq_true.1 h8.2 k (List.mem_range.2 hk)
 simpa [hne] using this
theorem eT {l : List Oper} {p : Plan} {z i : Nat} {o : Oper} (h : planOk l p z = true) (ho : l[i]? = some o) : OpOk l p z i o := by
 have := List.all_eq_true.1 h i (List.mem_range.2 (List.getElem?_eq_some_iff.1 ho).1)
 rw [ho] at this
 exact opOk_spec this
def Gives (P : Program) (R : Value → World → Prop) : Result Next → Prop
 | .ok (.value v) w' => R v w'
 | .ok .skip w' => R undef w'
 | .ok (.enter f args) w' => Calls P f args w' fun e w'' => ∃ v, e = .returned v ∧ R v w''
 | _ => False
theorem wp_of_gives {P : Program} {o : Oper} {a : Act} {w : World} {R : Value → World → Prop} {K : Act → World → Prop} {Q : Exit → Act → World → Prop}
  (h : Gives P R ((execOp a.eval o).run P w)) (hk : ∀ v w', R v w' → K (a.put o.dst v) w') : o.wp P a w K Q := by
 unfold Oper.wp
 generalize (execOp a.eval o).run P w = r at *
 cases r with
 | ok n w' =>
   cases n <;> simp only [Gives] at h <;> simp only [Oper.upon]
   case value v => exact hk _ _ h
   case skip => exact hk _ _ h
   case enter f args =>
    exact h.mono fun e w'' ⟨v, he, hr⟩ => by subst he; exact hk _ _ hr
 | halt x w' => simp only [Gives] at h
abbrev Facts := Nat → Gh → List Gh → List Gh → World → Prop
def Ob (P : Program) (l : List Oper) (p : Plan) (zlo zhi : Nat) (F : Facts) (W : World) (a0 : Act) (i : Nat) (o : Oper) : Prop :=
 ∀ (g : Nat → Gh) (ρ : Operand → Value) (w : World), (∀ v, ρ (.const v) = v) → (∀ f, ρ (.func f) = .func (.func f) #[] #[]) → (∀ k, ρ (.global k) = .pointer (some ⟨k, 0, none⟩)) →
   (∀ j ∈ p.d i, ∀ d, dstOf l j = some d → ρ (.tmp d) = (g j).v) → (∀ t, (∀ k ∈ List.range l.length, dstOf l k ≠ some t) → ρ (.tmp t) = a0.eval (.tmp t)) →
   OldIs zlo zhi (p.zf i = true) W w →
   (∀ j ∈ p.d i, W.heap.size ≤ (g j).s ∧ (g j).s ≤ (g j).e ∧ (g j).e ≤ w.heap.size) →
   (∀ j ∈ p.d i, ∀ k ∈ p.d i, j ≠ k → (g j).e ≤ (g k).s ∨ (g k).e ≤ (g j).s) →
   (∀ j ∈ p.d i, (∀ k ∈ List.range l.length, k ≠ i → j ∈ p.t k → i ∈ p.d k) → F j (g j) (tgOf p g j) ((p.r j).map g) w) →
   Gives P (fun v w' => aX zlo zhi (p.z = some i) (tgOf p g i) w w' ∧ F i ⟨v, w.heap.size, w'.heap.size⟩ (tgOf p g i) ((p.r i).map g) w') ((execOp ρ o).run P w)
def ObAll (P : Program) (L : List Oper) (p : Plan) (zlo zhi : Nat) (F : Facts) (W : World) (a0 : Act) : List Oper → Nat → Prop
 | [], _ => True
 | o :: r, k => Ob P L p zlo zhi F W a0 k o ∧ ObAll P L p zlo zhi F W a0 r (k + 1)
theorem obAll_get {P : Program} {L : List Oper} {p : Plan} {zlo zhi : Nat} {F : Facts} {W : World} {a0 : Act} : ∀ (l : List Oper) (k i : Nat) (o : Oper), ObAll P L p zlo zhi F W a0 l k → l[i]? = some o → Ob P L p zlo zhi F W a0 (k + i) o
 | [], _, _, _, _, h => by simp at h
 | o :: r, k, 0, o', h, ho => by simp at ho; subst ho; exact h.1
 | o :: r, k, i + 1, o', h, ho => by
   have := obAll_get r (k + 1) i o' h.2 (by simpa using ho)
   rwa [show k + 1 + i = k + (i + 1) by omega] at this
def Local (F : Facts) (p : Plan) (zlo zhi : Nat) (W : World) (n : Nat) : Prop :=
 ∀ (i : Nat) (x : Gh) (ts : List Gh) (ds : List Gh) (w w' : World), i < n → F i x ts ds w → w.heap.size ≤ w'.heap.size → W.heap.size ≤ w.heap.size → x.e ≤ w.heap.size →
   (∀ b, ((b < W.heap.size ∧ (b < zlo ∨ zhi ≤ b ∨ p.z = some i)) ∨ (x.s ≤ b ∧ b < x.e) ∨ ∃ t ∈ ts, t.s ≤ b ∧ b < t.e) → w'.heap[b]? = w.heap[b]?) → F i x ts ds w'
structure RInv (l : List Oper) (p : Plan) (zlo zhi : Nat) (F : Facts) (W : World) (a0 : Act) (listed : Array Bool) (a : Act) (w : World) (g : Nat → Gh) : Prop where
 below : OldIs zlo zhi (∀ z, p.z = some z → listed.getD z false ≠ true) W w
 dfr : a.defers = a0.defers
 size : a.tmps.size = a0.tmps.size
 down : ∀ i, listed.getD i false = true → ∀ j ∈ p.d i, listed.getD j false = true
 yes : ∀ i d, listed.getD i false = true → dstOf l i = some d → a.tmps[d]? = some (g i).v
 no : ∀ t, (∀ i, listed.getD i false = true → dstOf l i ≠ some t) → a.tmps[t]? = a0.tmps[t]?
 ends : ∀ i, listed.getD i false = true → W.heap.size ≤ (g i).s ∧ (g i).s ≤ (g i).e ∧ (g i).e ≤ w.heap.size
 apart : ∀ i j, listed.getD i false = true → listed.getD j false = true → i ≠ j → (g i).e ≤ (g j).s ∨ (g j).e ≤ (g i).s
 fact : ∀ i, listed.getD i false = true → (∀ k, listed.getD k false = true → i ∉ p.t k) → F i (g i) (tgOf p g i) ((p.r i).map g) w
theorem eX {listed : Array Bool} {i j : Nat} (h : (listed.setIfInBounds i true).getD j false = true) (hne : j ≠ i) : listed.getD j false = true := by
 rwa [getD_set_ne false (Ne.symm hne)] at h
theorem dstOf_lt {l : List Oper} {k d : Nat} (h : dstOf l k = some d) : k < l.length := by
 unfold dstOf at h
 rcases ho : l[k]? with _ | o
 ·rw [ho] at h; cases h
 exact (List.getElem?_eq_some_iff.1 ho).1
theorem rinv_step {P : Program} {l : List Oper} {p : Plan} {zlo zhi : Nat} {F : Facts} {W : World} {a0 : Act} {listed : Array Bool} {a : Act} {w : World} {g : Nat → Gh} {i : Nat} {o : Oper}
  (hp : planOk l p a0.tmps.size = true) (hzw : ∀ i, p.z = some i → zhi ≤ W.heap.size) (hF : Local F p zlo zhi W l.length) (ho : l[i]? = some o) (hls : listed.size = l.length)
  (hun : listed.getD i true = false) (haf : ∀ e ∈ o.after, Region.binds .any e = true → listed.getD e.on false = true) (I : RInv l p zlo zhi F W a0 listed a w g) (hob : Ob P l p zlo zhi F W a0 i o) :
  Gives P (fun v w' => ∃ g', RInv l p zlo zhi F W a0 (listed.setIfInBounds i true) (a.put o.dst v) w' g') ((execOp a.eval o).run P w) := by
 have hk := eT hp ho
 have hil : i < l.length := (List.getElem?_eq_some_iff.1 ho).1
 have hdi : dstOf l i = o.dst := by simp [dstOf, ho]
 have hD : ∀ j ∈ p.d i, listed.getD j false = true := fun j hj => by
  obtain ⟨e, he, hb, h1 | h1⟩ := hk.just j hj
  ·exact h1 ▸ haf e he hb
  exact I.down _ (haf e he hb) j h1
 have hnl : listed.getD i false ≠ true := by
  intro h
  rw [Array.getD_eq_getD_getElem?] at h hun
  rcases hx : listed[i]? with _ | b
  ·rw [hx] at h; cases h
  rw [hx] at h hun; simp at h hun; rw [h] at hun; cases hun
 have hne : ∀ j, listed.getD j false = true → j ≠ i := fun j hj e => hnl (e ▸ hj)
 have hlt : ∀ j, listed.getD j false = true → j < l.length := fun j hj => by
  rw [← hls]
  rcases Nat.lt_or_ge j listed.size with h | h
  ·exact h
  rw [Array.getD_eq_getD_getElem?, Array.getElem?_eq_none h] at hj; cases hj
 have hgs := hob g a.eval w (fun _ => rfl) (fun _ => rfl) (fun _ => rfl) (fun j hj d hd => by
   show a.tmps.getD d undef = _
   rw [Array.getD_eq_getD_getElem?, I.yes j d (hD j hj) hd]; rfl) (fun t ht => by
   show a.tmps.getD t undef = a0.tmps.getD t undef
   rw [Array.getD_eq_getD_getElem?, Array.getD_eq_getD_getElem?, I.no t (fun k hk => ht k (List.mem_range.2 (hlt k hk)))])
  ⟨I.below.os, I.below.tape, I.below.output, I.below.size, fun k hk hq => I.below.block k hk (hq.imp (fun hz z hpz hzl => by
    unfold Plan.zf at hz
    rw [hpz] at hz
    simp only [Bool.or_eq_true, beq_iff_eq] at hz
    rcases hz with rfl | hz
    ·exact hnl hzl
    ·exact hnl (I.down z hzl i (by simpa using hz))) id)⟩ (fun j hj => I.ends j (hD j hj))
    (fun j hj k hk hne => I.apart j k (hD j hj) (hD k hk) hne) (fun j hj hav => I.fact j (hD j hj) (fun k hkl hjt => hnl (I.down k hkl i (hav k (List.mem_range.2 (hlt k hkl)) (hne k hkl) hjt))))
 -- what the operation may turn
 have hts : ∀ t ∈ p.t i, listed.getD t false = true := fun t ht => hD t (hk.t t ht).1
 have key : ∀ v w', (aX zlo zhi (p.z = some i) (tgOf p g i) w w' ∧ F i ⟨v, w.heap.size, w'.heap.size⟩ (tgOf p g i) ((p.r i).map g) w') →
   ∃ g', RInv l p zlo zhi F W a0 (listed.setIfInBounds i true) (a.put o.dst v) w' g' := by
  rintro v w' ⟨hon, hfi⟩
  have hBs := I.below.size
  have hblk : ∀ b, b < w.heap.size → (∀ t ∈ p.t i, b < (g t).s ∨ (g t).e ≤ b) → (p.z = some i → b < zlo ∨ zhi ≤ b) → w'.heap[b]? = w.heap[b]? := fun b hb hq hz => by
   refine hon.block b hb (fun x hx => ?_) hz
   obtain ⟨t, ht, rfl⟩ := List.mem_map.1 hx
   exact hq t ht
  have hold : ∀ b, b < W.heap.size → (p.z = some i → b < zlo ∨ zhi ≤ b) → w'.heap[b]? = w.heap[b]? := fun b hb hz => hblk b (by omega) (fun t ht => .inl (by have := (I.ends t (hts t ht)).1; omega)) hz
  have hli : (listed.setIfInBounds i true).getD i false = true := by rw [Array.getD_eq_getD_getElem?, Array.getElem?_setIfInBounds_self, if_pos (by rw [hls]; exact hil)]; rfl
  let g' : Nat → Gh := fun j => if j = i then ⟨v, w.heap.size, w'.heap.size⟩ else g j
  have gi : g' i = ⟨v, w.heap.size, w'.heap.size⟩ := if_pos rfl
  have gj : ∀ j, j ≠ i → g' j = g j := fun j h => if_neg h
  have gR : ∀ j, listed.getD j false = true ∨ j = i → (p.r j).map g' = (p.r j).map g := fun j hj => by
   refine List.map_congr_left fun k hkr => gj k ?_
   rcases hj with hj | rfl
   ·rcases hoj : l[j]? with _ | oj
    ·have := hlt j hj; rw [List.getElem?_eq_none_iff] at hoj; omega
    exact hne k (I.down j hj k ((eT hp hoj).r k hkr))
   exact hne k (hD k (hk.r k hkr))
  have gT : ∀ j, listed.getD j false = true ∨ j = i → tgOf p g' j = tgOf p g j := fun j hj => by
   refine List.map_congr_left fun t ht => gj t ?_
   rcases hj with hj | rfl
   ·rcases hoj : l[j]? with _ | oj
    ·have := hlt j hj; rw [List.getElem?_eq_none_iff] at hoj; omega
    exact hne t (I.down j hj t (((eT hp hoj).t t ht).1))
   exact hne t (hts t ht)
  have psz : (a.put o.dst v).tmps.size = a.tmps.size := by unfold Act.put; split <;> simp
  refine ⟨g', ⟨I.below.os ▸ hon.os, I.below.tape ▸ hon.tape, I.below.output ▸ hon.output, Nat.le_trans hBs hon.size, fun b hb hq => by
   by_cases hz : p.z = some i
   ·rcases hq with hq | hq
    ·exact absurd hli (hq i hz)
    exact (hold b hb (fun _ => hq)).trans (I.below.block b hb (.inr hq))
   exact (hold b hb (fun h => absurd h hz)).trans (I.below.block b hb (hq.imp (fun h z hpz hzl => h z hpz (getD_set_true hzl)) id))⟩, ?_, psz.trans I.size, ?_, ?_, ?_, ?_, ?_, ?_⟩
  ·rw [← I.dfr]; unfold Act.put; split <;> rfl
  ·intro j hj k hkd
   by_cases hji : j = i
   ·subst hji; exact getD_set_true (hD k hkd)
   exact getD_set_true (I.down j (eX hj hji) k hkd)
  ·intro j d hj hd
   by_cases hji : j = i
   ·subst hji
    rw [hdi] at hd
    rw [gi, hd]
    show (a.tmps.setIfInBounds d v)[d]? = some v
    rw [Array.getElem?_setIfInBounds_self]
    rw [if_pos (by rw [I.size]; exact (hk.dst d hd).1)]
   rw [gj j hji]
   have hjl := eX hj hji
   have hdd : ∀ d', o.dst = some d' → d' ≠ d := fun d' h' e => (hk.dst d' h').2 j (hlt j hjl) hji (e ▸ hd)
   rw [← I.yes j d hjl hd]
   unfold Act.put
   rcases hx : o.dst with _ | d'
   ·rfl
   exact Array.getElem?_setIfInBounds_ne (hdd d' hx)
  ·intro t ht
   rw [← I.no t (fun j hj => ht j (getD_set_true hj))]
   have h1 := ht i (by rw [Array.getD_eq_getD_getElem?, Array.getElem?_setIfInBounds_self, if_pos (by rw [hls]; exact hil)]; rfl)
   rw [hdi] at h1
   unfold Act.put
   rcases hx : o.dst with _ | d'
   ·rfl
   exact Array.getElem?_setIfInBounds_ne (fun e => h1 (by rw [hx, e]))
  ·intro j hj
   by_cases hji : j = i
   ·subst hji; rw [gi]; exact ⟨hBs, hon.size, Nat.le_refl _⟩
   rw [gj j hji]
   have := I.ends j (eX hj hji)
   exact ⟨this.1, this.2.1, Nat.le_trans this.2.2 hon.size⟩
  ·intro j k hj hkl hjk
   by_cases hji : j = i
   ·subst hji
    rw [gi, gj k (Ne.symm hjk)]
    exact .inr (I.ends k (eX hkl (Ne.symm hjk))).2.2
   by_cases hki : k = i
   ·subst hki
    rw [gi, gj j hji]
    exact .inl (I.ends j (eX hj hji)).2.2
   rw [gj j hji, gj k hki]
   exact I.apart j k (eX hj hji) (eX hkl hki) hjk
  intro j hj hnt
  by_cases hji : j = i
  ·subst hji
   rw [gi, gT j (.inr rfl), gR j (.inr rfl)]
   exact hfi
  have hjl := eX hj hji
  rw [gj j hji, gT j (.inl hjl), gR j (.inl hjl)]
  have hse := I.ends j hjl
  have hij : j ∉ p.t i := hnt i (by rw [Array.getD_eq_getD_getElem?, Array.getElem?_setIfInBounds_self, if_pos (by rw [hls]; exact hil)]; rfl)
  rcases hoj : l[j]? with _ | oj
  ·have := hlt j hjl; rw [List.getElem?_eq_none_iff] at hoj; omega
  have hkj := eT hp hoj
  have htg : ∀ t ∈ p.t j, listed.getD t false = true := fun t ht => I.down j hjl t (hkj.t t ht).1
  refine hF j _ _ _ w w' (hlt j hjl) (I.fact j hjl (fun k hkl => hnt k (getD_set_true hkl))) hon.size hBs hse.2.2 ?_
  rintro b (⟨hb, hz⟩ | ⟨h1, h2⟩ | ⟨x, hx, h1, h2⟩)
  ·exact hold b hb (fun hzi => by
    rcases hz with h | h | h
    ·exact .inl h
    ·exact .inr h
    rw [hzi] at h; cases h; exact absurd rfl hji)
  ·refine hblk b (by omega) (fun t ht => ?_) (fun hzi => .inr (by have := hzw i hzi; omega))
   have := I.apart j t hjl (hts t ht) (fun e => hij (e ▸ ht))
   omega
  obtain ⟨t, ht, rfl⟩ := List.mem_map.1 hx
  have he := I.ends t (htg t ht)
  refine hblk b (by omega) (fun t' ht' => ?_) (fun hzi => .inr (by have := hzw i hzi; omega))
  have hne' : t ≠ t' := fun e => by
   subst e
   rcases (hk.t t ht').2 j (hlt j hjl) hji ht with h | h
   ·exact hij h
   exact hnl (htg i h)
  have := I.apart t t' (htg t ht) (hts t' ht') hne'
  omega
 revert hgs
 generalize (execOp a.eval o).run P w = r
 intro hgs
 cases r with
 | ok n w' =>
   cases n <;> simp only [Gives] at hgs ⊢
   case value v => exact key _ _ hgs
   case skip => exact key _ _ hgs
   case enter f args => exact hgs.mono fun e w'' ⟨v, he, hr⟩ => ⟨v, he, key _ _ hr⟩
 | halt x w' => simp only [Gives] at hgs
def restOf (n : Nat) (listed : Array Bool) : Nat := ((List.range n).filter fun i => !listed.getD i false).length
theorem filter_lt {α : Type} {p q : α → Bool} {x : α} : ∀ (l : List α), x ∈ l → (∀ y, q y = true → p y = true) → p x = true → q x = false → (l.filter q).length < (l.filter p).length
 | [], h, _, _, _ => by cases h
 | y :: l, h, hpq, hx, hq => by
   have hle : ∀ m : List α, (m.filter q).length ≤ (m.filter p).length := fun m => by
    induction m with
    | nil => simp
    | cons z m ih =>
      by_cases hz : q z = true
      ·simp [List.filter_cons, hz, hpq z hz]; exact ih
      by_cases hz' : p z = true
      ·simp [List.filter_cons, hz, hz']; omega
      simp [List.filter_cons, hz, hz']; exact ih
   rcases List.mem_cons.1 h with rfl | h
   ·simp [List.filter_cons, hx, hq]; have := hle l; omega
   have ih := filter_lt l h hpq hx hq
   by_cases hz : q y = true
   ·simp [List.filter_cons, hz, hpq y hz]; exact ih
   by_cases hz' : p y = true
   ·simp [List.filter_cons, hz, hz']; omega
   simp [List.filter_cons, hz, hz']; exact ih
theorem ready_all {l : List Oper} {p : Plan} {z : Nat} {listed : Array Bool} (hp : planOk l p z = true) (hls : listed.size = l.length) (hr : Region.ready .any l.toArray listed = []) :
  ∀ i, i < l.length → listed.getD i false = true := by
 intro i
 induction i using Nat.strongRecOn with
 | ind i ih =>
   intro hi
   obtain ⟨o, ho⟩ : ∃ o, l[i]? = some o := ⟨l[i], List.getElem?_eq_getElem hi⟩
   have hk := eT hp ho
   rcases hx : listed.getD i true with _ | _
   ·have : i ∈ Region.ready .any l.toArray listed := mem_ready.2 ⟨hx, o, by simpa using ho, fun e he hb => ih e.on (hk.after e he hb) (by have := hk.after e he hb; omega)⟩
    rw [hr] at this; cases this
   rw [Array.getD_eq_getD_getElem?] at hx ⊢
   rw [Array.getElem?_eq_getElem (by rw [hls]; exact hi)] at hx ⊢
   simpa using hx
theorem wpAny_facts {P : Program} {l : List Oper} {p : Plan} {zlo zhi : Nat} {F : Facts} {W : World} {a0 : Act} {Q : Exit → Act → World → Prop} (hp : planOk l p a0.tmps.size = true) (hzw : ∀ i, p.z = some i → zhi ≤ W.heap.size) (hF : Local F p zlo zhi W l.length)
  (hob : ObAll P l p zlo zhi F W a0 l 0) (fin : ∀ listed a w g, RInv l p zlo zhi F W a0 listed a w g → (∀ i, i < l.length → listed.getD i false = true) → listed.size = l.length → Q .normal a w) :
  ∀ (fuel : Nat) (listed : Array Bool) (a : Act) (w : World) (g : Nat → Gh), listed.size = l.length → restOf l.length listed ≤ fuel → RInv l p zlo zhi F W a0 listed a w g → wpAny P .any l.toArray Q fuel listed a w := by
 intro fuel
 induction fuel with
 | zero =>
   intro listed a w g hls hm I
   have hnil : (List.range l.length).filter (fun i => !listed.getD i false) = [] := List.eq_nil_of_length_eq_zero (by unfold restOf at hm; omega)
   have hall : ∀ i, i < l.length → listed.getD i false = true := fun i hi => by
    rcases hx : listed.getD i false with _ | _
    ·have : i ∈ (List.range l.length).filter (fun i => !listed.getD i false) := List.mem_filter.2 ⟨List.mem_range.2 hi, by rw [hx]; rfl⟩
     rw [hnil] at this; cases this
    rfl
   refine ⟨?_, fin listed a w g I hall hls⟩
   rcases hr : Region.ready .any l.toArray listed with _ | ⟨i, r⟩
   ·rfl
   ·have hi : i ∈ Region.ready .any l.toArray listed := by rw [hr]; exact List.mem_cons_self
    obtain ⟨h0, o, ho, _⟩ := mem_ready.1 hi
    have hil : i < l.length := (List.getElem?_eq_some_iff.1 (by simpa using ho)).1
    have h1 := hall i hil
    rw [Array.getD_eq_getD_getElem?, Array.getElem?_eq_getElem (by rw [hls]; exact hil)] at h0 h1
    simp at h0 h1
    rw [h0] at h1; cases h1
 | succ fuel ih =>
   intro listed a w g hls hm I
   refine ⟨fun hr => fin listed a w g I (ready_all hp hls hr) hls, fun i hi => ?_⟩
   obtain ⟨h0, o, ho, haf⟩ := mem_ready.1 hi
   have ho' : l[i]? = some o := by simpa using ho
   have hil : i < l.length := (List.getElem?_eq_some_iff.1 ho').1
   have hob' := obAll_get l 0 i o hob ho'
   rw [Nat.zero_add] at hob'
   have hg := rinv_step hp hzw hF ho' hls h0 haf I hob'
   unfold wpOp
   rw [ho]
   have hwant : Region.wanted o (yielded l.toArray a.tmps) = true := by unfold Region.wanted; rw [(eT hp ho').guard]
   simp only [hwant, if_true]
   refine .inl (wp_of_gives hg ?_)
   rintro v w' ⟨g', I'⟩
   refine ih _ _ _ g' (by simpa using hls) ?_ I'
   have : restOf l.length (listed.setIfInBounds i true) < restOf l.length listed := by
    refine filter_lt (x := i) _ (List.mem_range.2 hil) (fun y hy => ?_) ?_ ?_
    ·rcases hx : listed.getD y false with _ | _
     ·rfl
     rw [getD_set_true hx] at hy; cases hy
    ·rw [Array.getD_eq_getD_getElem?, Array.getElem?_eq_getElem (by rw [hls]; exact hil)] at h0 ⊢
     simp at h0 ⊢; exact h0
    rw [Array.getD_eq_getD_getElem?, Array.getElem?_setIfInBounds_self, if_pos (by rw [hls]; exact hil)]; rfl
   omega
def closure (l : List Oper) : List (List Nat) := l.foldl (fun acc o => acc ++ [(o.after.toList.filter (Region.binds .any)).flatMap fun e => e.on :: acc.getD e.on []]) []
def planOf (l : List Oper) (R T : List (List Nat)) (z : Option Nat) : Plan := ⟨closure l, R, T, z⟩
def dY : List (Option Tmp) → (Nat → Gh) → Nat → Act → Act
 | [], _, _, a => a
 | d :: r, g, k, a => dY r g (k + 1) (a.put d (g k).v)
theorem putDs_defers (g : Nat → Gh) : ∀ (ds : List (Option Tmp)) (k : Nat) (a : Act), (dY ds g k a).defers = a.defers
 | [], _, _ => rfl
 | d :: ds, k, a => by rw [dY, putDs_defers g ds]; unfold Act.put; split <;> rfl
theorem putDs_no {g : Nat → Gh} {t : Nat} : ∀ (ds : List (Option Tmp)) (k : Nat) (a : Act), (∀ j : Nat, ds[j]? ≠ some (some t)) → (dY ds g k a).tmps[t]? = a.tmps[t]?
 | [], _, _, _ => rfl
 | d :: ds, k, a, h => by
   rw [dY, putDs_no ds _ _ (fun j => by have := h (j + 1); simpa using this)]
   have h1 := h 0
   unfold Act.put
   rcases d with _ | d
   ·rfl
   exact Array.getElem?_setIfInBounds_ne (fun e => h1 (by rw [e]; rfl))
theorem putDs_yes {g : Nat → Gh} {t : Nat} : ∀ (ds : List (Option Tmp)) (k j : Nat) (a : Act), ds[j]? = some (some t) → (∀ i : Nat, ds[i]? = some (some t) → i = j) → t < a.tmps.size → (dY ds g k a).tmps[t]? = some (g (k + j)).v
 | [], _, _, _, h, _, _ => by simp at h
 | d :: ds, k, 0, a, h, hu, ht => by
   simp at h
   subst h
   rw [dY, putDs_no ds _ _ (fun i e => by have := hu (i + 1) (by simpa using e); omega)]
   show (a.tmps.setIfInBounds t (g k).v)[t]? = _
   rw [Array.getElem?_setIfInBounds_self, if_pos ht]; rfl
 | d :: ds, k, j + 1, a, h, hu, ht => by
   have hsz : t < (a.put d (g k).v).tmps.size := by unfold Act.put; split <;> simpa using ht
   rw [dY, putDs_yes ds (k + 1) j _ (by simpa using h) (fun i e => by have := hu (i + 1) (by simpa using e); omega) hsz]
   rw [show k + 1 + j = k + (j + 1) by omega]
theorem bq {P : Program} {id : Nat} {Q : Exit → Act → World → Prop} {a0 : Act} {W : World} {l : List Oper} (R T : List (List Nat)) (ds : List (Option Tmp)) (z : Option Nat) (zlo zhi : Nat) (hzw : z = none ∨ zhi ≤ W.heap.size) (F : Facts) (hm : P.follows .mixedOrders = true)
  (hp : planOk l (planOf l R T z) a0.tmps.size = true) (hds : l.map (·.dst) = ds)
  (hF : Local F (planOf l R T z) zlo zhi W.drew l.length) (hob : ObAll P l (planOf l R T z) zlo zhi F W.drew a0 l 0)
  (fin : ∀ (g : Nat → Gh) (w : World), OldIs zlo zhi (z = none) W w → (∀ i ∈ List.range l.length, W.drew.heap.size ≤ (g i).s ∧ (g i).s ≤ (g i).e ∧ (g i).e ≤ w.heap.size) →
    (∀ i ∈ List.range l.length, ∀ j ∈ List.range l.length, i ≠ j → (g i).e ≤ (g j).s ∨ (g j).e ≤ (g i).s) →
    (∀ i ∈ List.range l.length, (∀ k ∈ List.range l.length, i ∉ (planOf l R T z).t k) → F i (g i) (tgOf (planOf l R T z) g i) (((planOf l R T z).r i).map g) w) → Q .normal (dY ds g 0 a0) w) :
  (Code.region id l.toArray true).wp P Q a0 W := by
 refine wp_region_any hm ?_
 have h0 : ∀ i, (Array.replicate l.toArray.size false).getD i false ≠ true := fun i h => by
  rw [Array.getD_eq_getD_getElem?] at h
  rcases Nat.lt_or_ge i l.length with hi | hi
  ·simp [hi] at h
  simp [hi] at h
 refine wpAny_facts (W := W.drew) hp (fun i hi => hzw.elim (fun h => by subst h; cases hi) (fun h => h)) hF hob (fun listed a w g I hall hls => ?_) _ _ _ _ (fun _ => Gh.no) (by simp) ?_ ⟨⟨rfl, rfl, rfl, Nat.le_refl _, fun _ _ _ => rfl⟩, rfl, rfl, fun i h => absurd h (h0 i), fun i d h => absurd h (h0 i), fun _ _ => rfl, fun i h => absurd h (h0 i), fun i j h => absurd h (h0 i), fun i h => absurd h (h0 i)⟩
 ·have hin : ∀ i, listed.getD i false = true → i < l.length := fun j hj => by
   rw [← hls]
   rcases Nat.lt_or_ge j listed.size with h | h
   ·exact h
   rw [Array.getD_eq_getD_getElem?, Array.getElem?_eq_none h] at hj; cases hj
  have hdj : ∀ (j t : Nat), ds[j]? = some (some t) ↔ dstOf l j = some t := fun j t => by
   rw [← hds, List.getElem?_map, dstOf]
   rcases l[j]? with _ | o <;> simp
  have he : a = dY ds g 0 a0 := by
   have h1 : a.tmps = (dY ds g 0 a0).tmps := by
    refine Array.ext_getElem? fun t => ?_
    by_cases hq : ∃ j, j < l.length ∧ dstOf l j = some t
    ·obtain ⟨j, hj, hd⟩ := hq
     obtain ⟨o, ho⟩ : ∃ o, l[j]? = some o := ⟨l[j], List.getElem?_eq_getElem hj⟩
     have hk := eT hp ho
     have hdo : o.dst = some t := by simpa [dstOf, ho] using hd
     rw [I.yes j t (hall j hj) hd, putDs_yes ds 0 j _ ((hdj j t).2 hd) (fun k hkd => ?_) (hk.dst t hdo).1, Nat.zero_add]
     have hkd := (hdj k t).1 hkd
     by_cases hkj : k = j
     ·exact hkj
     exact absurd hkd ((hk.dst t hdo).2 k (dstOf_lt hkd) hkj)
    rw [I.no t (fun j hj hd => hq ⟨j, hin j hj, hd⟩), putDs_no _ _ _ (fun j hd => hq ⟨j, dstOf_lt ((hdj j t).1 hd), (hdj j t).1 hd⟩)]
   have h2 : a.defers = (dY ds g 0 a0).defers := by rw [I.dfr, putDs_defers]
   cases a; cases hpp : dY ds g 0 a0
   rw [hpp] at h1 h2
   simp only at h1 h2
   rw [h1, h2]
  rw [he]
  exact fin g w ⟨I.below.os, I.below.tape, I.below.output, I.below.size, fun k hk hq => I.below.block k hk (hq.imp (fun h z' hz' => by subst h; cases hz') (fun h => h))⟩ (fun i hi => I.ends i (hall i (List.mem_range.1 hi))) (fun i hi j hj => I.apart i j (hall i (List.mem_range.1 hi)) (hall j (List.mem_range.1 hj)))
   (fun i hi hk => I.fact i (hall i (List.mem_range.1 hi)) (fun k hkl => hk k (List.mem_range.2 (hin k hkl))))
 unfold restOf
 have := List.length_filter_le (fun i => !(Array.replicate l.toArray.size false).getD i false) (List.range l.length)
 simpa using this
end
section
open Go.RowKit
theorem fF {F G : Facts} (H : Hid (F = G)) {i : Nat} {x : Gh} {t d : List Gh} {u : World} (h : F i x t d u) : G i x t d u := H.out ▸ h
theorem fG {F G : Facts} (H : Hid (F = G)) {A B : Prop} {i : Nat} {x : Gh} {t d : List Gh} {u : World} (h : A → B → F i x t d u) (a : A := by decide +kernel) (b : B := by decide +kernel) : G i x t d u := H.out ▸ h a b
theorem fE {F G : Facts} (H : Hid (F = G)) {lo hi : Nat} {zz : Prop} {ts : List Gh} {i : Nat} {x : Gh} {t d : List Gh} {u : World} (h : G i x t d u) : aX lo hi zz ts u u ∧ F i x t d u := ⟨aX.refl _ _, H.out.symm ▸ h⟩
end
section
open Go.RowKit
theorem info_string : (Tryz.prog.info? 9).map (fun i => (i.zero, i.size, i.bytes)) = some (some (.string ByteArray.empty), 1, 16) := by kernel_rfl
theorem info_int : (Tryz.prog.info? 3).map (fun i => (i.zero, i.size, i.bytes)) = some (some (.int .i64 0), 1, 8) := by kernel_rfl
theorem info_Entry : (Tryz.prog.info? 41).map (fun i => (i.zero, i.size, i.bytes)) = some (some (.agg #[.string ByteArray.empty, .int .i64 0, .int .i64 0, .string ByteArray.empty, .string ByteArray.empty]), 5, 64) := by kernel_rfl
theorem ay {w : World} {base e size n : Nat} {v : Value} {xs : List Value} (h : w.ownsRow base e size v n xs) :
  ∃ (A : Option Addr) (c : Nat), v = .slice A n c ∧ n ≤ c ∧ (A = none → c = 0) ∧ Own w base w.heap.size A xs := by
 have h' := h
 rcases h.2 with ⟨rfl, rfl⟩ | ⟨g, cap, cur, rfl, _, _, h3, _⟩
 ·exact ⟨none, 0, rfl, Nat.le_refl _, fun _ => rfl, Own.bg h'⟩
 exact ⟨_, _, rfl, h3, fun h => by (cases h), Own.bg h'⟩
theorem ownsRow_lower {w : World} {base b' e size n : Nat} {v : Value} {xs : List Value} (h : w.ownsRow base e size v n xs) (hb : b' ≤ base) : w.ownsRow b' e size v n xs := by
 refine ⟨h.1, h.2.imp id ?_⟩
 rintro ⟨g, cap, cur, hv, h1, h2⟩
 exact ⟨g, cap, cur, hv, by omega, h2⟩
theorem cloneStr_nil {l : List ByteArray} (h : strs l = []) : l = [] := List.map_eq_nil_iff.1 h
theorem cloneStr_len {l : List ByteArray} {n : Nat} (h : l.length = n) : (strs l).length = n * 1 := by rw [strs_len, h, Nat.mul_one]
theorem cloneStr_one (l : List ByteArray) : ∀ u ∈ strs l, u.oneCell' = true := by
 intro u hu; obtain ⟨x, _, rfl⟩ := List.mem_map.1 hu; rfl
theorem cloneEnt_nil {l : List Ent} (h : aR l = []) : l = [] := by
 have := congrArg List.length h; rw [ents_len] at this; exact List.eq_nil_of_length_eq_zero (by simp at this; omega)
theorem cloneEnt_len {l : List Ent} {n : Nat} (h : l.length = n) : (aR l).length = n * 5 := by rw [ents_len, h]
theorem cloneEnt_one (l : List Ent) : ∀ u ∈ aR l, u.oneCell' = true := by
 intro u hu
 obtain ⟨x, _, h⟩ := List.mem_flatMap.1 hu
 simp only [Ent.cells, List.mem_cons, List.not_mem_nil, or_false] at h
 rcases h with rfl | rfl | rfl | rfl | rfl <;> rfl
set_option maxRecDepth 100000 in
theorem cloneStrR_c (A : Option Addr) (c lo hi n : Nat) (l : List ByteArray) (w : World) (hr : Rd w lo hi A (strs l)) (hn : l.length = n) (hl : n ≤ 1048576) (hA : A = none → c = 0) :
  Calls Tryz.prog 96 #[.slice A n c] w fun e w' => ∃ (A' : Option Addr) (c' : Nat), e = .returned (.slice A' n c') ∧ w'.ownsRow w.heap.size 9 1 (.slice A' n c') n (strs l) ∧ Below w.heap.size w w' := by
 rcases A with _ | ad
 ·have hl0 : l = [] := by
   by_cases h : strs l = []
   ·exact cloneStr_nil h
   obtain ⟨b, off, h1, _⟩ := hr h; cases h1
  subst hl0
  obtain rfl : 0 = n := hn
  obtain rfl := hA rfl
  have hnil := fun (W : World) (a : Option Addr) (n c : Nat) => Lib.run_eql_slice_nil (P := Tryz.prog) W 29 _ a n c 0 0 Tryz.underlying29
  go_enter Tryz.func96, Tryz.ntmps96
  go_wp2
  go_ret
  first
   | exact ⟨none, 0, rfl, World.ownsRow_nil _ _ _ _, Below.refl _ _⟩
   | exact ⟨none, ⟨0, rfl, World.ownsRow_nil _ _ _ _⟩, Below.refl _ _⟩
   | exact ⟨none, ⟨0, rfl⟩, World.ownsRow_nil _ _ _ _, Below.refl _ _⟩
 have hnews : ∀ (W : World), Below w.heap.size w W → ∀ (j : Nat) (u : Value), (strs l)[j]? = some u → W.cell? (ad.add j) = some u := by
  intro W hW j u hu
  obtain ⟨b, off, h1, _, h3, h4, h5⟩ := hr (by intro e; rw [e] at hu; simp at hu)
  cases h1
  rw [Addr.add_lit]
  exact (hW.cell (p := ⟨b, off + j, none⟩) (show b < w.heap.size by omega)).trans (h5 j u hu)
 obtain ⟨i0, hi0, hz0, hz1, hz2⟩ := info_parts info_string
 have hlen : (strs l).length = n * 1 := cloneStr_len hn
 have hone := cloneStr_one l
 clear hr hA
 have hnil := fun (W : World) (a : Option Addr) (n c : Nat) => Lib.run_eql_slice_nil (P := Tryz.prog) W 29 _ a n c 0 0 Tryz.underlying29
 go_enter Tryz.func96, Tryz.ntmps96
 go_wp2_with (at_builtin; refine wpList_append_own _ rfl _ _ 29 rfl w.heap.size 9 i0 (.string ByteArray.empty) 1 16 Tryz.underlying29 hi0 hz0 hz1 hz2 rfl (by decide) _ 0 [] rfl (World.ownsRow_made w #[] 0 (Nat.le_refl _) (Nat.zero_le _) rfl) ad n c (strs l) rfl hlen (hnews _ ((Below.refl _ _).alloc (Nat.le_refl _) _)) hone (by unfold maxLen; omega) (by omega) (by simp) ?_)
 intro v' w1 hown hg _
 try simp only [Nat.zero_add, List.nil_append] at hown
 obtain ⟨A', c', rfl, h1, h2, h3⟩ := ay hown
 have hb := ((Below.refl w.heap.size w).alloc (Nat.le_refl _) (.cells #[] 9)).grown hg (by first | omega | (simp; done) | (simp; omega)) (fun j hj => by cases hj; exact Nat.le_refl _)
 have HR := lH (show w1.ownsRow w.heap.size 9 1 (.slice A' n c') n (strs l) ∧ Below w.heap.size w w1 from ⟨hown, hb⟩)
 clear hown hg h1 h2 h3 hb hnews hone hi0 hz0 hz1 hz2
 go_wp2
 go_ret
 exact ⟨_, _, rfl, HR.out⟩
set_option maxRecDepth 100000 in
theorem cloneEntR_c (A : Option Addr) (c lo hi n : Nat) (l : List Ent) (w : World) (hr : Rd w lo hi A (aR l)) (hn : l.length = n) (hl : n ≤ 1048576) (hA : A = none → c = 0) :
  Calls Tryz.prog 175 #[.slice A n c] w fun e w' => ∃ (A' : Option Addr) (c' : Nat), e = .returned (.slice A' n c') ∧ w'.ownsRow w.heap.size 41 5 (.slice A' n c') n (aR l) ∧ Below w.heap.size w w' := by
 rcases A with _ | ad
 ·have hl0 : l = [] := by
   by_cases h : aR l = []
   ·exact cloneEnt_nil h
   obtain ⟨b, off, h1, _⟩ := hr h; cases h1
  subst hl0
  obtain rfl : 0 = n := hn
  obtain rfl := hA rfl
  have hnil := fun (W : World) (a : Option Addr) (n c : Nat) => Lib.run_eql_slice_nil (P := Tryz.prog) W 24 _ a n c 0 0 Tryz.underlying24
  go_enter Tryz.func175, Tryz.ntmps175
  go_wp2
  go_ret
  first
   | exact ⟨none, 0, rfl, World.ownsRow_nil _ _ _ _, Below.refl _ _⟩
   | exact ⟨none, ⟨0, rfl, World.ownsRow_nil _ _ _ _⟩, Below.refl _ _⟩
   | exact ⟨none, ⟨0, rfl⟩, World.ownsRow_nil _ _ _ _, Below.refl _ _⟩
 have hnews : ∀ (W : World), Below w.heap.size w W → ∀ (j : Nat) (u : Value), (aR l)[j]? = some u → W.cell? (ad.add j) = some u := by
  intro W hW j u hu
  obtain ⟨b, off, h1, _, h3, h4, h5⟩ := hr (by intro e; rw [e] at hu; simp at hu)
  cases h1
  rw [Addr.add_lit]
  exact (hW.cell (p := ⟨b, off + j, none⟩) (show b < w.heap.size by omega)).trans (h5 j u hu)
 obtain ⟨i0, hi0, hz0, hz1, hz2⟩ := info_parts info_Entry
 have hlen : (aR l).length = n * 5 := cloneEnt_len hn
 have hone := cloneEnt_one l
 clear hr hA
 have hnil := fun (W : World) (a : Option Addr) (n c : Nat) => Lib.run_eql_slice_nil (P := Tryz.prog) W 24 _ a n c 0 0 Tryz.underlying24
 go_enter Tryz.func175, Tryz.ntmps175
 go_wp2_with (at_builtin; refine wpList_append_own _ rfl _ _ 24 rfl w.heap.size 41 i0 (.agg #[.string ByteArray.empty, .int .i64 0, .int .i64 0, .string ByteArray.empty, .string ByteArray.empty]) 5 64 Tryz.underlying24 hi0 hz0 hz1 hz2 rfl (by decide) _ 0 [] rfl (World.ownsRow_made w #[] 0 (Nat.le_refl _) (Nat.zero_le _) rfl) ad n c (aR l) rfl hlen (hnews _ ((Below.refl _ _).alloc (Nat.le_refl _) _)) hone (by unfold maxLen; omega) (by omega) (by simp) ?_)
 intro v' w1 hown hg _
 try simp only [Nat.zero_add, List.nil_append] at hown
 obtain ⟨A', c', rfl, h1, h2, h3⟩ := ay hown
 have hb := ((Below.refl w.heap.size w).alloc (Nat.le_refl _) (.cells #[] 41)).grown hg (by first | omega | (simp; done) | (simp; omega)) (fun j hj => by cases hj; exact Nat.le_refl _)
 have HR := lH (show w1.ownsRow w.heap.size 41 5 (.slice A' n c') n (aR l) ∧ Below w.heap.size w w1 from ⟨hown, hb⟩)
 clear hown hg h1 h2 h3 hb hnews hone hi0 hz0 hz1 hz2
 go_wp2
 go_ret
 exact ⟨_, _, rfl, HR.out⟩
theorem stop_here {p : Prop} (h : True → p) : p := h trivial
theorem bG {w w' : World} {base : Nat} {e : TypeId} {size n : Nat} {v : Value} {xs : List Value} (h : w.ownsRow base e size v n xs) (hg : w.grownBy w' v.ownBlock) : Only base w.heap.size w w' :=
 ⟨hg.os, hg.tape, hg.output, hg.size, fun k hk hd => hg.block k hk (fun he => by have := (h.lt k he.symm).1; omega)⟩
theorem one_map {α : Type} {f : α → Value} (h : ∀ x, (f x).oneCell' = true) (l : List α) : ∀ u ∈ l.map f, u.oneCell' = true := fun u hu => by
 obtain ⟨x, _, rfl⟩ := List.mem_map.1 hu
 exact h x
theorem wpList_append_rd {P : Program} {w : World} {ops : Array Oper} {rest : List Oper} {o : Oper} {a : Act} {Q : Exit → Act → World → Prop} (hgd : o.guard = none) (s x : Operand) (t : TypeId)
  (ho : o.op = .call { callee := .builtin .append, args := #[s, x], argTypes := #[t, t] })
  (base : Nat) (e : TypeId) (i : TypeInfo) (z : Value) (size bytes : Nat) (ht : P.underlying t = some (.slice e)) (hi : P.info? e = some i) (hz : i.zero = some z)
  (hsize : i.size = size) (hby : i.bytes = bytes) (hzs : z.cells.size = size) (hsz : 0 < size)
  (v : Value) (n : Nat) (xs : List Value) (hs : a.eval s = v) (hown : w.ownsRow base e size v n xs)
  (A : Option Addr) (m c lo hi' : Nat) (news : List Value) (hx : a.eval x = .slice A m c) (hl : news.length = m * size) (hr : Rd w lo hi' A news) (hA : A = none → c = 0) (h1 : ∀ u ∈ news, u.oneCell' = true)
  (h63 : n + m ≤ maxLen) (hbytes : (n + m) * bytes ≤ 140737488355328) (hbase : base ≤ w.heap.size)
  (h : ∀ v' w', w'.ownsRow base e size v' (n + m) (xs ++ news) → w.grownBy w' v.ownBlock → wpList P ops Q rest (a.put o.dst v') w') : wpList P ops Q (o :: rest) a w := by
 rcases A with _ | ad
 ·have hnil : news = [] := by
   by_cases hn : news = []
   ·exact hn
   obtain ⟨b, off, h1, _⟩ := hr hn; cases h1
  subst hnil
  have hm : m = 0 := by
   rcases Nat.eq_zero_or_pos m with h | h
   ·exact h
   have := Nat.mul_pos h hsz
   simp at hl
   omega
  subst hm
  obtain rfl := hA rfl
  refine wpList_append_own_none hgd s x t ho base e i size ht hi v n xs hs hown hx (h v w ?_ ⟨rfl, rfl, rfl, Nat.le_refl _, fun _ _ _ => rfl⟩)
  simpa using hown
 refine wpList_append_own _ hgd s x t ho base e i z size bytes ht hi hz hsize hby hzs hsz v n xs hs hown ad m c news hx hl (fun j u hu => ?_) h1 h63 hbytes hbase (fun v' w' h2 h3 _ => h v' w' h2 h3)
 obtain ⟨b, off, h1, _, _, _, h5⟩ := hr (by intro e; rw [e] at hu; simp at hu)
 cases h1
 rw [Addr.add_lit]
 exact h5 j u hu
theorem eQ {P : Program} {w : World} {ops : Array Oper} {rest : List Oper} {o : Oper} {a : Act} {Q : Exit → Act → World → Prop} (hgd : o.guard = none) (s x : Operand) (t : TypeId)
  (ho : o.op = .call { callee := .builtin .append, args := #[s, x], argTypes := #[t, t] })
  (base : Nat) (e : TypeId) (i : TypeInfo) (z : Value) (size bytes : Nat) (ht : P.underlying t = some (.slice e)) (hi : P.info? e = some i) (hz : i.zero = some z)
  (hsize : i.size = size) (hby : i.bytes = bytes) (hzs : z.cells.size = size) (hsz : 0 < size)
  (v : Value) (n : Nat) (xs : List Value) (hs : a.eval s = v) (hown : w.ownsRow base e size v n xs)
  (k m : Nat) (news : List Value) (hx : a.eval x = .slice (some ⟨k, 0, none⟩) m m) (hl : news.length = m * size) (hr : aa w k news) (h1 : ∀ u ∈ news, u.oneCell' = true)
  (h63 : n + m ≤ maxLen) (hbytes : (n + m) * bytes ≤ 140737488355328) (hbase : base ≤ w.heap.size)
  (h : ∀ v' w', w'.ownsRow base e size v' (n + m) (xs ++ news) → w.grownBy w' v.ownBlock → wpList P ops Q rest (a.put o.dst v') w') : wpList P ops Q (o :: rest) a w :=
 wpList_append_own _ hgd s x t ho base e i z size bytes ht hi hz hsize hby hzs hsz v n xs hs hown ⟨k, 0, none⟩ m m news hx hl (fun j u hu => by rw [Addr.add_lit, Nat.zero_add]; exact (hr.2.1 j).trans hu) h1 h63 hbytes hbase (fun v' w' h2 h3 _ => h v' w' h2 h3)
def inG (x : Gh) (ts : List Gh) (k : Nat) : Prop := (x.s ≤ k ∧ k < x.e) ∨ ∃ t ∈ ts, t.s ≤ k ∧ k < t.e
structure bL (S : Nat → Prop) (w : World) (e : TypeId) (size : Nat) (v : Value) (n : Nat) (xs : List Value) : Prop where
 row : w.ownsRow 0 e size v n xs
 at_ : ∀ k, v.ownBlock = some k → S k
theorem bL.keep {S : Nat → Prop} {w w' : World} {e : TypeId} {size n : Nat} {v : Value} {xs : List Value} (h : bL S w e size v n xs) (hb : ∀ k, S k → w'.heap[k]? = w.heap[k]?) : bL S w' e size v n xs := by
 refine ⟨⟨h.row.1, ?_⟩, h.at_⟩
 rcases h.row.2 with h1 | ⟨g, cap, cur, hv, h1, h2, h3⟩
 ·exact .inl h1
 exact .inr ⟨g, cap, cur, hv, h1, by rw [hb g (h.at_ g (by rw [hv]; rfl))]; exact h2, h3⟩
theorem bL.made (w : World) (e : TypeId) (size : Nat) (S : Nat → Prop) (hS : S w.heap.size) : bL S (w.alloc (.cells #[] e)) e size (.slice (some ⟨w.heap.size, 0, none⟩) 0 0) 0 [] :=
 ⟨World.ownsRow_made _ #[] 0 (Nat.zero_le _) (Nat.zero_le _) (by simp), fun k hk => by cases hk; exact hS⟩
theorem bL.own {S : Nat → Prop} {w : World} {e : TypeId} {size n : Nat} {A : Option Addr} {c : Nat} {xs : List Value} (h : bL S w e size (.slice A n c) n xs) {lo hi : Nat} (hS : ∀ k, S k → lo ≤ k ∧ k < hi) (hh : hi ≤ w.heap.size) :
  n ≤ c ∧ (A = none → c = 0) ∧ Own w lo hi A xs := by
 obtain ⟨A', c', e1, h1, h2, h3⟩ := ay h.row
 injection e1 with e1 _ e3
 subst e1
 subst e3
 refine ⟨h1, h2, fun hn => ?_⟩
 obtain ⟨b, off, g1, g2, g3, g4, g5, g6⟩ := h3 hn
 subst g1
 have := hS b (h.at_ b rfl)
 exact ⟨b, off, rfl, this.1, this.2, hh, g5, g6⟩
theorem bL.widen {S S' : Nat → Prop} {w : World} {e : TypeId} {size n H : Nat} {v : Value} {xs : List Value} (h : bL (fun k => S k ∨ k = H) w e size v n xs) (hs : ∀ k, S k → S' k) (hn : v.ownBlock = some H → S' H) : bL S' w e size v n xs :=
 ⟨h.row, fun k hk => (h.at_ k hk).elim (hs k) (fun e => by subst e; exact hn hk)⟩
theorem aa.rd {w : World} {k : Nat} {cs : List Value} (h : aa w k cs) : Rd w 0 w.heap.size (some ⟨k, 0, none⟩) cs := fun _ =>
 ⟨k, 0, rfl, Nat.zero_le _, h.1, Nat.le_refl _, fun j u hu => by rw [Nat.zero_add]; exact (h.2.1 j).trans hu⟩
theorem gives_append_rd {P : Program} {w : World} {ρ : Operand → Value} {o : Oper} {R : Value → World → Prop} (s x : Operand) (t : TypeId)
  (ho : o.op = .call { callee := .builtin .append, args := #[s, x], argTypes := #[t, t] })
  (e : TypeId) (i : TypeInfo) (z : Value) (size bytes : Nat) (ht : P.underlying t = some (.slice e)) (hi : P.info? e = some i) (hz : i.zero = some z)
  (hsize : i.size = size) (hby : i.bytes = bytes) (hzs : z.cells.size = size) (hsz : 0 < size)
  (v : Value) (n : Nat) (xs : List Value) (hs : ρ s = v) {S : Nat → Prop} (hown : bL S w e size v n xs)
  (A : Option Addr) (m c lo hi' : Nat) (news : List Value) (hx : ρ x = .slice A m c) (hl : news.length = m * size) (hr : Rd w lo hi' A news) (hA : A = none → c = 0) (h1 : ∀ u ∈ news, u.oneCell' = true)
  (h63 : n + m ≤ maxLen) (hbytes : (n + m) * bytes ≤ 140737488355328)
  (h : ∀ A' c' w', bL (fun k => S k ∨ k = w.heap.size) w' e size (.slice A' (n + m) c') (n + m) (xs ++ news) → (∀ k, (.slice A' (n + m) c' : Value).ownBlock = some k → k < w'.heap.size) → w.grownBy w' v.ownBlock → R (.slice A' (n + m) c') w') : Gives P R ((execOp ρ o).run P w) := by
 obtain ⟨Av, cv, rfl, _, _, _⟩ := ay hown.row
 rcases A with _ | ad
 ·have hnil : news = [] := by
   by_cases hn : news = []
   ·exact hn
   obtain ⟨b, off, h1, _⟩ := hr hn; cases h1
  subst hnil
  have hm : m = 0 := by
   rcases Nat.eq_zero_or_pos m with h | h
   ·exact h
   have := Nat.mul_pos h hsz
   simp at hl
   omega
  subst hm
  obtain rfl := hA rfl
  have hrun := run_append_owned_none (P := P) (w := w) 0 t o.type e i size ht hi _ n xs hown.row
  unfold execOp
  simp only [ho, resolve, invoke, builtin, Sem.run_bind, Sem.run_pure, Result.andThen_ok, List.map_toArray, List.map_cons, List.map_nil, hs, hx, hrun]
  exact h Av cv w (by simpa using ⟨hown.row, fun k hk => .inl (hown.at_ k hk)⟩) (fun k hk => (hown.row.lt k hk).2) ⟨rfl, rfl, rfl, Nat.le_refl _, fun _ _ _ => rfl⟩
 obtain ⟨v', w', hrun, h2, h3, _, h5⟩ := run_append_own_at (P := P) w 0 t o.type e i z size bytes ht hi hz hsize hby hzs hsz _ n xs hown.row ad m c news hl (fun j u hu => by
  obtain ⟨b, off, h1, _, _, _, h5⟩ := hr (by intro e; rw [e] at hu; simp at hu)
  cases h1
  rw [Addr.add_lit]
  exact h5 j u hu) h1 h63 hbytes (Nat.zero_le _)
 obtain ⟨A', c', rfl, _, _, _⟩ := ay h2
 unfold execOp
 simp only [ho, resolve, invoke, builtin, Sem.run_bind, Sem.run_pure, Result.andThen_ok, List.map_toArray, List.map_cons, List.map_nil, hs, hx, hrun]
 refine h A' c' w' ⟨h2, fun k hk => ?_⟩ (fun k hk => (h2.lt k hk).2) h3
 rcases h5 with h5 | h5
 ·exact .inl (hown.at_ k (by rw [← h5]; exact hk))
 rw [hk] at h5; cases h5; exact .inr rfl
theorem one_ints (l : List Int) : ∀ u ∈ ints l, u.oneCell' = true := one_map (fun _ => rfl) l
theorem app1Int {w : World} {ops : Array Oper} {rest : List Oper} {o : Oper} {a : Act} {Q : Exit → Act → World → Prop} (hgd : o.guard = none) (s x : Operand)
  (ho : o.op = .call { callee := .builtin .append, args := #[s, x], argTypes := #[44, 44] }) (base : Nat) (v : Value) (n : Nat) (xs : List Value) (hs : a.eval s = v) (hown : w.ownsRow base 3 1 v n xs)
  (k : Nat) (x0 : Int) (hx : a.eval x = .slice (some ⟨k, 0, none⟩) 1 1) (hr : aa w k (ints [x0])) (h63 : n + 1 ≤ 100000000) (hbase : base ≤ w.heap.size)
  (h : ∀ v' w', w'.ownsRow base 3 1 v' (n + 1) (xs ++ ints [x0]) → w.grownBy w' v.ownBlock → wpList Tryz.prog ops Q rest (a.put o.dst v') w') : wpList Tryz.prog ops Q (o :: rest) a w := by
 obtain ⟨i0, hi0, hz0, hz1, hz2⟩ := info_parts info_int
 exact eQ hgd s x _ ho base _ i0 (.int .i64 0) 1 8 Tryz.underlying44 hi0 hz0 hz1 hz2 rfl (by decide) v n xs hs hown k 1 _ hx (by rw [ints_len]; try rfl) hr (one_ints _) (by unfold maxLen; omega) (by omega) hbase h
theorem appStr {w : World} {ops : Array Oper} {rest : List Oper} {o : Oper} {a : Act} {Q : Exit → Act → World → Prop} (hgd : o.guard = none) (s x : Operand)
  (ho : o.op = .call { callee := .builtin .append, args := #[s, x], argTypes := #[29, 29] }) (base : Nat) (v : Value) (n : Nat) (xs : List Value) (hs : a.eval s = v) (hown : w.ownsRow base 9 1 v n xs)
  (A : Option Addr) (q c lo hi' : Nat) (l : List ByteArray) (hx : a.eval x = .slice A q c) (hl : l.length = q) (hr : Rd w lo hi' A (strs l)) (hA : A = none → c = 0)
  (h63 : n + q ≤ 100000000) (hbase : base ≤ w.heap.size)
  (h : ∀ v' w', w'.ownsRow base 9 1 v' (n + q) (xs ++ strs l) → w.grownBy w' v.ownBlock → wpList Tryz.prog ops Q rest (a.put o.dst v') w') : wpList Tryz.prog ops Q (o :: rest) a w := by
 obtain ⟨i0, hi0, hz0, hz1, hz2⟩ := info_parts info_string
 exact wpList_append_rd hgd s x _ ho base _ i0 (.string ByteArray.empty) 1 16 Tryz.underlying29 hi0 hz0 hz1 hz2 rfl (by decide) v n xs hs hown A q c lo hi' _ hx (by rw [strs_len, hl]; try omega) hr hA (cloneStr_one _) (by unfold maxLen; omega) (by omega) hbase h
theorem fQ {w : World} {ops : Array Oper} {rest : List Oper} {o : Oper} {a : Act} {Q : Exit → Act → World → Prop} (hgd : o.guard = none) (s x : Operand)
  (ho : o.op = .call { callee := .builtin .append, args := #[s, x], argTypes := #[29, 29] }) (base : Nat) (v : Value) (n : Nat) (xs : List Value) (hs : a.eval s = v) (hown : w.ownsRow base 9 1 v n xs)
  (k : Nat) (x0 : ByteArray) (hx : a.eval x = .slice (some ⟨k, 0, none⟩) 1 1) (hr : aa w k (strs [x0])) (h63 : n + 1 ≤ 100000000) (hbase : base ≤ w.heap.size)
  (h : ∀ v' w', w'.ownsRow base 9 1 v' (n + 1) (xs ++ strs [x0]) → w.grownBy w' v.ownBlock → wpList Tryz.prog ops Q rest (a.put o.dst v') w') : wpList Tryz.prog ops Q (o :: rest) a w := by
 obtain ⟨i0, hi0, hz0, hz1, hz2⟩ := info_parts info_string
 exact eQ hgd s x _ ho base _ i0 (.string ByteArray.empty) 1 16 Tryz.underlying29 hi0 hz0 hz1 hz2 rfl (by decide) v n xs hs hown k 1 _ hx (by rw [strs_len]; try rfl) hr (cloneStr_one _) (by unfold maxLen; omega) (by omega) hbase h
theorem gappEnt {w : World} {ρ : Operand → Value} {o : Oper} {R : Value → World → Prop} (s x : Operand)
  (ho : o.op = .call { callee := .builtin .append, args := #[s, x], argTypes := #[24, 24] }) (v : Value) (n : Nat) (xs : List Value) (hs : ρ s = v) {S : Nat → Prop} (hown : bL S w 41 5 v n xs)
  (A : Option Addr) (q c lo hi' : Nat) (l : List Ent) (hx : ρ x = .slice A q c) (hl : l.length = q) (hr : Rd w lo hi' A (aR l)) (hA : A = none → c = 0) (h63 : n + q ≤ 100000000)
  (h : ∀ A' c' w', bL (fun k => S k ∨ k = w.heap.size) w' 41 5 (.slice A' (n + q) c') (n + q) (xs ++ aR l) → (∀ k, (.slice A' (n + q) c' : Value).ownBlock = some k → k < w'.heap.size) → w.grownBy w' v.ownBlock → R (.slice A' (n + q) c') w') :
  Gives Tryz.prog R ((execOp ρ o).run Tryz.prog w) := by
 obtain ⟨i0, hi0, hz0, hz1, hz2⟩ := info_parts info_Entry
 exact gives_append_rd s x _ ho _ i0 (.agg #[.string ByteArray.empty, .int .i64 0, .int .i64 0, .string ByteArray.empty, .string ByteArray.empty]) 5 64 Tryz.underlying24 hi0 hz0 hz1 hz2 rfl (by decide) v n xs hs hown A q c lo hi' _ hx (by rw [ents_len, hl]; try omega) hr hA (cloneEnt_one _) (by unfold maxLen; omega) (by omega) h
theorem gapp1Ent {w : World} {ρ : Operand → Value} {o : Oper} {R : Value → World → Prop} (s x : Operand)
  (ho : o.op = .call { callee := .builtin .append, args := #[s, x], argTypes := #[24, 24] }) (v : Value) (n : Nat) (xs : List Value) (hs : ρ s = v) {S : Nat → Prop} (hown : bL S w 41 5 v n xs)
  (k : Nat) (x0 : Ent) (hx : ρ x = .slice (some ⟨k, 0, none⟩) 1 1) (hr : aa w k (aR [x0])) (h63 : n + 1 ≤ 100000000)
  (h : ∀ A' c' w', bL (fun k => S k ∨ k = w.heap.size) w' 41 5 (.slice A' (n + 1) c') (n + 1) (xs ++ aR [x0]) → (∀ k, (.slice A' (n + 1) c' : Value).ownBlock = some k → k < w'.heap.size) → w.grownBy w' v.ownBlock → R (.slice A' (n + 1) c') w') :
  Gives Tryz.prog R ((execOp ρ o).run Tryz.prog w) :=
 gappEnt s x ho v n xs hs hown _ 1 1 0 w.heap.size [x0] hx rfl (aa.rd hr) (fun h => by cases h) h63 h
end
end Go.Proofs.YtoccjgcokffkbaaGreat
