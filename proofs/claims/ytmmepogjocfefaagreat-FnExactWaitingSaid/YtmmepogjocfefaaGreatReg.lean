/- A region that draws its order and whose operations may make memory: one fact for each operation, shown once, serves every order. -/
import Derived.Test.YtmmepogjocfefaaGreatWk
import Derived.Still
namespace Go.Proofs.YtmmepogjocfefaaGreat
set_option linter.unusedVariables false
set_option linter.unusedSimpArgs false
open Go.RowKit

/-- what an operation has left: its value, and where memory ended ahead of it and behind it -/
structure Gh where
 v : Value
 s : Nat
 e : Nat
def Gh.no : Gh := ⟨undef, 0, 0⟩

/-- d: what an operation waits for; r: whose values its fact names; t: whose blocks it turns -/
structure Plan where
 D : List (List Nat)
 R : List (List Nat)
 T : List (List Nat)
 z : Option Nat
def Plan.d (p : Plan) (i : Nat) : List Nat := p.D.getD i []
def Plan.r (p : Plan) (i : Nat) : List Nat := p.R.getD i []
def Plan.t (p : Plan) (i : Nat) : List Nat := p.T.getD i []
/-- while operation i runs, no old block has turned -/
def Plan.zf (p : Plan) (i : Nat) : Bool := match p.z with
 | none => true
 | some z => i == z || (p.d z).contains i
def dstOf (l : List Oper) (j : Nat) : Option Tmp := (l[j]?).bind (·.dst)
def tgOf (p : Plan) (g : Nat → Gh) (i : Nat) : List Gh := (p.t i).map g
/-- the old blocks are as they were, but perhaps those from lo on and below hi -/
structure OldIs (lo hi : Nat) (full : Prop) (W w : World) : Prop where
 os : w.os = W.os
 tape : w.tape = W.tape
 output : w.output = W.output
 size : W.heap.size ≤ w.heap.size
 block : ∀ k, k < W.heap.size → (full ∨ k < lo ∨ hi ≤ k) → w.heap[k]? = W.heap[k]?
theorem OldIs.below {lo hi : Nat} {full : Prop} {W w : World} (h : OldIs lo hi full W w) (hf : full) : Below W.heap.size W w := ⟨h.os, h.tape, h.output, h.size, fun k hk => h.block k hk (.inl hf)⟩
theorem OldIs.only {lo hi : Nat} {full : Prop} {W w : World} (h : OldIs lo hi full W w) : Only lo hi W w := ⟨h.os, h.tape, h.output, h.size, fun k hk hd => h.block k hk (.inr hd)⟩
theorem OldIs.drew {lo hi : Nat} {full : Prop} {W w : World} (h : OldIs lo hi full W.drew w) : OldIs lo hi full W w := ⟨h.os, h.tape, h.output, h.size, h.block⟩
/-- only blocks of these operations, and new ones, may have turned; and old ones from lo on and below hi, if zz -/
structure OnlyL (lo hi : Nat) (zz : Prop) (ts : List Gh) (w w' : World) : Prop where
 os : w'.os = w.os
 tape : w'.tape = w.tape
 output : w'.output = w.output
 size : w.heap.size ≤ w'.heap.size
 block : ∀ k, k < w.heap.size → (∀ t ∈ ts, k < t.s ∨ t.e ≤ k) → (zz → k < lo ∨ hi ≤ k) → w'.heap[k]? = w.heap[k]?
section
variable {lo hi : Nat} {zz : Prop} {ts : List Gh} {w w' : World}
theorem OnlyL.of_below (h : Below w.heap.size w w') : OnlyL lo hi zz ts w w' := ⟨h.os, h.tape, h.output, h.size, fun k hk _ _ => h.block k hk⟩
theorem OnlyL.refl (ts : List Gh) (w : World) : OnlyL lo hi zz ts w w := ⟨rfl, rfl, rfl, Nat.le_refl _, fun _ _ _ _ => rfl⟩
theorem OnlyL.of_only {t : Gh} (h : Only t.s t.e w w') : OnlyL lo hi zz [t] w w' := ⟨h.os, h.tape, h.output, h.size, fun k hk hd _ => h.block k hk (hd t List.mem_cons_self)⟩
theorem OnlyL.of_z (h : Only lo hi w w') (hz : zz) : OnlyL lo hi zz ts w w' := ⟨h.os, h.tape, h.output, h.size, fun k hk _ hd => h.block k hk (hd hz)⟩
end

def noSel : Op → Bool
 | .select .. => false
 | _ => true
def opOk (l : List Oper) (p : Plan) (z i : Nat) (o : Oper) : Bool :=
 o.guard.isNone && noSel o.op && o.after.all (fun e => !Region.binds .any e || decide (e.on < i)) &&
 (p.d i).all (fun j => decide (j < i) && (p.d j).all (fun k => (p.d i).contains k) && o.after.any (fun e => Region.binds .any e && (e.on == j || (p.d e.on).contains j))) &&
 (p.r i).all (fun j => (p.d i).contains j) &&
 ((p.t i).all fun t => (p.d i).contains t && (List.range l.length).all (fun k => k == i || !(p.t k).contains t || (p.t i).contains k || (p.t k).contains i)) &&
 o.op.operands.all (fun x => match x with | .tmp t => (List.range l.length).all (fun k => dstOf l k != some t || (p.d i).contains k || (p.d k).contains i) | _ => true) &&
 (match o.dst with | none => true | some d => decide (d < z) && (List.range l.length).all (fun k => k == i || dstOf l k != some d))
def planOk (l : List Oper) (p : Plan) (z : Nat) : Bool := (List.range l.length).all fun i => match l[i]? with | some o => opOk l p z i o | none => false

structure OpOk (l : List Oper) (p : Plan) (z i : Nat) (o : Oper) : Prop where
 guard : o.guard = none
 sel : ∀ cs b, o.op ≠ .select cs b
 after : ∀ e ∈ o.after, Region.binds .any e = true → e.on < i
 lt : ∀ j ∈ p.d i, j < i
 down : ∀ j ∈ p.d i, ∀ k ∈ p.d j, k ∈ p.d i
 just : ∀ j ∈ p.d i, ∃ e ∈ o.after, Region.binds .any e = true ∧ (e.on = j ∨ j ∈ p.d e.on)
 r : ∀ j ∈ p.r i, j ∈ p.d i
 t : ∀ t ∈ p.t i, t ∈ p.d i ∧ ∀ k < l.length, k ≠ i → t ∈ p.t k → k ∈ p.t i ∨ i ∈ p.t k
 opnd : ∀ t, Operand.tmp t ∈ o.op.operands → ∀ k < l.length, dstOf l k = some t → k ∈ p.d i ∨ i ∈ p.d k
 dst : ∀ d, o.dst = some d → d < z ∧ ∀ k < l.length, k ≠ i → dstOf l k ≠ some d

theorem opOk_spec {l : List Oper} {p : Plan} {z i : Nat} {o : Oper} (h : opOk l p z i o = true) : OpOk l p z i o := by
 unfold opOk at h
 simp only [Bool.and_eq_true] at h
 obtain ⟨⟨⟨⟨⟨⟨⟨h1, h2⟩, h3⟩, h4⟩, h5⟩, h6⟩, h7⟩, h8⟩ := h
 refine ⟨by simpa using h1, fun cs b e => (by rw [e] at h2; cases h2), fun e he hb => ?_, fun j hj => ?_, fun j hj k hk => ?_, fun j hj => ?_, fun j hj => ?_, fun t ht => ?_, fun t ht k hk hd => ?_, fun d hd => ?_⟩
 ·have := Array.all_eq_true'.1 h3 e he
  rw [hb] at this
  simpa using this
 ·have := List.all_eq_true.1 h4 j hj
  simp only [Bool.and_eq_true, decide_eq_true_eq] at this
  exact this.1.1
 ·have := List.all_eq_true.1 h4 j hj
  simp only [Bool.and_eq_true] at this
  have := List.all_eq_true.1 this.1.2 k hk
  simpa using this
 ·have := List.all_eq_true.1 h4 j hj
  simp only [Bool.and_eq_true] at this
  obtain ⟨e, he, hh⟩ := Array.any_eq_true'.1 this.2
  simp only [Bool.and_eq_true, Bool.or_eq_true, beq_iff_eq] at hh
  exact ⟨e, he, hh.1, hh.2.imp id (fun q => by simpa using q)⟩
 ·have := List.all_eq_true.1 h5 j hj
  simpa using this
 ·have := List.all_eq_true.1 h6 t ht
  simp only [Bool.and_eq_true] at this
  refine ⟨by simpa using this.1, fun k hk hne hkt => ?_⟩
  have := List.all_eq_true.1 this.2 k (List.mem_range.2 hk)
  simpa [hne, hkt] using this
 ·have := Array.all_eq_true'.1 h7 _ ht
  have := List.all_eq_true.1 this k (List.mem_range.2 hk)
  simpa [hd] using this
 ·rw [hd] at h8
  simp only [Bool.and_eq_true, decide_eq_true_eq] at h8
  refine ⟨h8.1, fun k hk hne => ?_⟩
  have := List.all_eq_true.1 h8.2 k (List.mem_range.2 hk)
  simpa [hne] using this
theorem planOk_spec {l : List Oper} {p : Plan} {z i : Nat} {o : Oper} (h : planOk l p z = true) (ho : l[i]? = some o) : OpOk l p z i o := by
 have := List.all_eq_true.1 h i (List.mem_range.2 (List.getElem?_eq_some_iff.1 ho).1)
 rw [ho] at this
 exact opOk_spec this

/-- what is asked of an operation, once it has run -/
def Gives (P : Program) (R : Value → World → Prop) : Result Next → Prop
 | .ok (.value v) w' => R v w'
 | .ok .skip w' => R undef w'
 | .ok (.enter f args) w' => Calls P f args w' fun e w'' => ∃ v, e = .returned v ∧ R v w''
 | _ => False
theorem wp_of_gives {P : Program} {o : Oper} {a : Act} {w : World} {R : Value → World → Prop} {K : Act → World → Prop} {Q : Exit → Act → World → Prop}
  (h : Gives P R ((execOp a.eval o).run P w)) (hk : ∀ v w', R v w' → K (a.put o.dst v) w') : o.wp P a w K Q := by
 unfold Oper.wp
 generalize (execOp a.eval o).run P w = r at *
 cases r with
 | ok n w' =>
   cases n <;> simp only [Gives] at h <;> simp only [Oper.upon]
   case value v => exact hk _ _ h
   case skip => exact hk _ _ h
   case enter f args =>
    exact h.mono fun e w'' ⟨v, he, hr⟩ => by subst he; exact hk _ _ hr
 | halt x w' => simp only [Gives] at h

abbrev Facts := Nat → Gh → List Gh → List Gh → World → Prop

/-- operation i, in whatever order -/
def Ob (P : Program) (l : List Oper) (p : Plan) (zlo zhi : Nat) (F : Facts) (W : World) (a0 : Act) (i : Nat) (o : Oper) : Prop :=
 ∀ (g : Nat → Gh) (ρ : Operand → Value) (w : World), (∀ v, ρ (.const v) = v) → (∀ f, ρ (.func f) = .func (.func f) #[] #[]) → (∀ k, ρ (.global k) = .pointer (some ⟨k, 0, none⟩)) →
   (∀ j ∈ p.d i, ∀ d, dstOf l j = some d → ρ (.tmp d) = (g j).v) → (∀ t, (∀ k ∈ List.range l.length, dstOf l k ≠ some t) → ρ (.tmp t) = a0.eval (.tmp t)) →
   OldIs zlo zhi (p.zf i = true) W w →
   (∀ j ∈ p.d i, W.heap.size ≤ (g j).s ∧ (g j).s ≤ (g j).e ∧ (g j).e ≤ w.heap.size) →
   (∀ j ∈ p.d i, ∀ k ∈ p.d i, j ≠ k → (g j).e ≤ (g k).s ∨ (g k).e ≤ (g j).s) →
   (∀ j ∈ p.d i, (∀ k ∈ List.range l.length, k ≠ i → j ∈ p.t k → i ∈ p.d k) → F j (g j) (tgOf p g j) ((p.r j).map g) w) →
   Gives P (fun v w' => OnlyL zlo zhi (p.z = some i) (tgOf p g i) w w' ∧ F i ⟨v, w.heap.size, w'.heap.size⟩ (tgOf p g i) ((p.r i).map g) w') ((execOp ρ o).run P w)
def ObAll (P : Program) (L : List Oper) (p : Plan) (zlo zhi : Nat) (F : Facts) (W : World) (a0 : Act) : List Oper → Nat → Prop
 | [], _ => True
 | o :: r, k => Ob P L p zlo zhi F W a0 k o ∧ ObAll P L p zlo zhi F W a0 r (k + 1)
theorem obAll_get {P : Program} {L : List Oper} {p : Plan} {zlo zhi : Nat} {F : Facts} {W : World} {a0 : Act} : ∀ (l : List Oper) (k i : Nat) (o : Oper), ObAll P L p zlo zhi F W a0 l k → l[i]? = some o → Ob P L p zlo zhi F W a0 (k + i) o
 | [], _, _, _, _, h => by simp at h
 | o :: r, k, 0, o', h, ho => by simp at ho; subst ho; exact h.1
 | o :: r, k, i + 1, o', h, ho => by
   have := obAll_get r (k + 1) i o' h.2 (by simpa using ho)
   rwa [show k + 1 + i = k + (i + 1) by omega] at this

/-- a fact lives in old memory, in the blocks that its own operation laid, and in those that it turned -/
def Local (F : Facts) (p : Plan) (zlo zhi : Nat) (W : World) (n : Nat) : Prop :=
 ∀ (i : Nat) (x : Gh) (ts : List Gh) (ds : List Gh) (w w' : World), i < n → F i x ts ds w → w.heap.size ≤ w'.heap.size → W.heap.size ≤ w.heap.size → x.e ≤ w.heap.size →
   (∀ b, ((b < W.heap.size ∧ (b < zlo ∨ zhi ≤ b ∨ p.z = some i)) ∨ (x.s ≤ b ∧ b < x.e) ∨ ∃ t ∈ ts, t.s ≤ b ∧ b < t.e) → w'.heap[b]? = w.heap[b]?) → F i x ts ds w'

structure RInv (l : List Oper) (p : Plan) (zlo zhi : Nat) (F : Facts) (W : World) (a0 : Act) (listed : Array Bool) (a : Act) (w : World) (g : Nat → Gh) : Prop where
 below : OldIs zlo zhi (∀ z, p.z = some z → listed.getD z false ≠ true) W w
 dfr : a.defers = a0.defers
 size : a.tmps.size = a0.tmps.size
 down : ∀ i, listed.getD i false = true → ∀ j ∈ p.d i, listed.getD j false = true
 yes : ∀ i d, listed.getD i false = true → dstOf l i = some d → a.tmps[d]? = some (g i).v
 no : ∀ t, (∀ i, listed.getD i false = true → dstOf l i ≠ some t) → a.tmps[t]? = a0.tmps[t]?
 ends : ∀ i, listed.getD i false = true → W.heap.size ≤ (g i).s ∧ (g i).s ≤ (g i).e ∧ (g i).e ≤ w.heap.size
 apart : ∀ i j, listed.getD i false = true → listed.getD j false = true → i ≠ j → (g i).e ≤ (g j).s ∨ (g j).e ≤ (g i).s
 fact : ∀ i, listed.getD i false = true → (∀ k, listed.getD k false = true → i ∉ p.t k) → F i (g i) (tgOf p g i) ((p.r i).map g) w

theorem listed_set {listed : Array Bool} {i j : Nat} (h : (listed.setIfInBounds i true).getD j false = true) (hne : j ≠ i) : listed.getD j false = true := by
 rwa [getD_set_ne false (Ne.symm hne)] at h
theorem dstOf_lt {l : List Oper} {k d : Nat} (h : dstOf l k = some d) : k < l.length := by
 unfold dstOf at h
 rcases ho : l[k]? with _ | o
 ·rw [ho] at h; cases h
 ·exact (List.getElem?_eq_some_iff.1 ho).1

theorem rinv_step {P : Program} {l : List Oper} {p : Plan} {zlo zhi : Nat} {F : Facts} {W : World} {a0 : Act} {listed : Array Bool} {a : Act} {w : World} {g : Nat → Gh} {i : Nat} {o : Oper}
  (hp : planOk l p a0.tmps.size = true) (hzw : ∀ i, p.z = some i → zhi ≤ W.heap.size) (hF : Local F p zlo zhi W l.length) (ho : l[i]? = some o) (hls : listed.size = l.length)
  (hun : listed.getD i true = false) (haf : ∀ e ∈ o.after, Region.binds .any e = true → listed.getD e.on false = true) (I : RInv l p zlo zhi F W a0 listed a w g) (hob : Ob P l p zlo zhi F W a0 i o) :
  Gives P (fun v w' => ∃ g', RInv l p zlo zhi F W a0 (listed.setIfInBounds i true) (a.put o.dst v) w' g') ((execOp a.eval o).run P w) := by
 have hk := planOk_spec hp ho
 have hil : i < l.length := (List.getElem?_eq_some_iff.1 ho).1
 have hdi : dstOf l i = o.dst := by simp [dstOf, ho]
 have hD : ∀ j ∈ p.d i, listed.getD j false = true := fun j hj => by
  obtain ⟨e, he, hb, h1 | h1⟩ := hk.just j hj
  ·exact h1 ▸ haf e he hb
  ·exact I.down _ (haf e he hb) j h1
 have hnl : listed.getD i false ≠ true := by
  intro h
  rw [Array.getD_eq_getD_getElem?] at h hun
  rcases hx : listed[i]? with _ | b
  ·rw [hx] at h; cases h
  ·rw [hx] at h hun; simp at h hun; rw [h] at hun; cases hun
 have hne : ∀ j, listed.getD j false = true → j ≠ i := fun j hj e => hnl (e ▸ hj)
 have hlt : ∀ j, listed.getD j false = true → j < l.length := fun j hj => by
  rw [← hls]
  rcases Nat.lt_or_ge j listed.size with h | h
  ·exact h
  ·rw [Array.getD_eq_getD_getElem?, Array.getElem?_eq_none h] at hj; cases hj
 have hgs := hob g a.eval w (fun _ => rfl) (fun _ => rfl) (fun _ => rfl) (fun j hj d hd => by
   show a.tmps.getD d undef = _
   rw [Array.getD_eq_getD_getElem?, I.yes j d (hD j hj) hd]; rfl) (fun t ht => by
   show a.tmps.getD t undef = a0.tmps.getD t undef
   rw [Array.getD_eq_getD_getElem?, Array.getD_eq_getD_getElem?, I.no t (fun k hk => ht k (List.mem_range.2 (hlt k hk)))])
  ⟨I.below.os, I.below.tape, I.below.output, I.below.size, fun k hk hq => I.below.block k hk (hq.imp (fun hz z hpz hzl => by
    unfold Plan.zf at hz
    rw [hpz] at hz
    simp only [Bool.or_eq_true, beq_iff_eq] at hz
    rcases hz with rfl | hz
    ·exact hnl hzl
    ·exact hnl (I.down z hzl i (by simpa using hz))) id)⟩ (fun j hj => I.ends j (hD j hj))
    (fun j hj k hk hne => I.apart j k (hD j hj) (hD k hk) hne) (fun j hj hav => I.fact j (hD j hj) (fun k hkl hjt => hnl (I.down k hkl i (hav k (List.mem_range.2 (hlt k hkl)) (hne k hkl) hjt))))
 -- what the operation may turn
 have hts : ∀ t ∈ p.t i, listed.getD t false = true := fun t ht => hD t (hk.t t ht).1
 have key : ∀ v w', (OnlyL zlo zhi (p.z = some i) (tgOf p g i) w w' ∧ F i ⟨v, w.heap.size, w'.heap.size⟩ (tgOf p g i) ((p.r i).map g) w') →
   ∃ g', RInv l p zlo zhi F W a0 (listed.setIfInBounds i true) (a.put o.dst v) w' g' := by
  rintro v w' ⟨hon, hfi⟩
  have hBs := I.below.size
  have hblk : ∀ b, b < w.heap.size → (∀ t ∈ p.t i, b < (g t).s ∨ (g t).e ≤ b) → (p.z = some i → b < zlo ∨ zhi ≤ b) → w'.heap[b]? = w.heap[b]? := fun b hb hq hz => by
   refine hon.block b hb (fun x hx => ?_) hz
   obtain ⟨t, ht, rfl⟩ := List.mem_map.1 hx
   exact hq t ht
  have hold : ∀ b, b < W.heap.size → (p.z = some i → b < zlo ∨ zhi ≤ b) → w'.heap[b]? = w.heap[b]? := fun b hb hz => hblk b (by omega) (fun t ht => .inl (by have := (I.ends t (hts t ht)).1; omega)) hz
  have hli : (listed.setIfInBounds i true).getD i false = true := by rw [Array.getD_eq_getD_getElem?, Array.getElem?_setIfInBounds_self, if_pos (by rw [hls]; exact hil)]; rfl
  let g' : Nat → Gh := fun j => if j = i then ⟨v, w.heap.size, w'.heap.size⟩ else g j
  have gi : g' i = ⟨v, w.heap.size, w'.heap.size⟩ := if_pos rfl
  have gj : ∀ j, j ≠ i → g' j = g j := fun j h => if_neg h
  have gR : ∀ j, listed.getD j false = true ∨ j = i → (p.r j).map g' = (p.r j).map g := fun j hj => by
   refine List.map_congr_left fun k hkr => gj k ?_
   rcases hj with hj | rfl
   ·rcases hoj : l[j]? with _ | oj
    ·have := hlt j hj; rw [List.getElem?_eq_none_iff] at hoj; omega
    ·exact hne k (I.down j hj k ((planOk_spec hp hoj).r k hkr))
   ·exact hne k (hD k (hk.r k hkr))
  have gT : ∀ j, listed.getD j false = true ∨ j = i → tgOf p g' j = tgOf p g j := fun j hj => by
   refine List.map_congr_left fun t ht => gj t ?_
   rcases hj with hj | rfl
   ·rcases hoj : l[j]? with _ | oj
    ·have := hlt j hj; rw [List.getElem?_eq_none_iff] at hoj; omega
    ·exact hne t (I.down j hj t (((planOk_spec hp hoj).t t ht).1))
   ·exact hne t (hts t ht)
  have psz : (a.put o.dst v).tmps.size = a.tmps.size := by unfold Act.put; split <;> simp
  refine ⟨g', ⟨I.below.os ▸ hon.os, I.below.tape ▸ hon.tape, I.below.output ▸ hon.output, Nat.le_trans hBs hon.size, fun b hb hq => by
   by_cases hz : p.z = some i
   ·rcases hq with hq | hq
    ·exact absurd hli (hq i hz)
    ·exact (hold b hb (fun _ => hq)).trans (I.below.block b hb (.inr hq))
   ·exact (hold b hb (fun h => absurd h hz)).trans (I.below.block b hb (hq.imp (fun h z hpz hzl => h z hpz (getD_set_true hzl)) id))⟩, ?_, psz.trans I.size, ?_, ?_, ?_, ?_, ?_, ?_⟩
  ·rw [← I.dfr]; unfold Act.put; split <;> rfl
  ·intro j hj k hkd
   by_cases hji : j = i
   ·subst hji; exact getD_set_true (hD k hkd)
   ·exact getD_set_true (I.down j (listed_set hj hji) k hkd)
  ·intro j d hj hd
   by_cases hji : j = i
   ·subst hji
    rw [hdi] at hd
    rw [gi, hd]
    show (a.tmps.setIfInBounds d v)[d]? = some v
    rw [Array.getElem?_setIfInBounds_self]
    rw [if_pos (by rw [I.size]; exact (hk.dst d hd).1)]
   ·rw [gj j hji]
    have hjl := listed_set hj hji
    have hdd : ∀ d', o.dst = some d' → d' ≠ d := fun d' h' e => (hk.dst d' h').2 j (hlt j hjl) hji (e ▸ hd)
    rw [← I.yes j d hjl hd]
    unfold Act.put
    rcases hx : o.dst with _ | d'
    ·rfl
    ·exact Array.getElem?_setIfInBounds_ne (hdd d' hx)
  ·intro t ht
   rw [← I.no t (fun j hj => ht j (getD_set_true hj))]
   have h1 := ht i (by rw [Array.getD_eq_getD_getElem?, Array.getElem?_setIfInBounds_self, if_pos (by rw [hls]; exact hil)]; rfl)
   rw [hdi] at h1
   unfold Act.put
   rcases hx : o.dst with _ | d'
   ·rfl
   ·exact Array.getElem?_setIfInBounds_ne (fun e => h1 (by rw [hx, e]))
  ·intro j hj
   by_cases hji : j = i
   ·subst hji; rw [gi]; exact ⟨hBs, hon.size, Nat.le_refl _⟩
   ·rw [gj j hji]
    have := I.ends j (listed_set hj hji)
    exact ⟨this.1, this.2.1, Nat.le_trans this.2.2 hon.size⟩
  ·intro j k hj hkl hjk
   by_cases hji : j = i
   ·subst hji
    rw [gi, gj k (Ne.symm hjk)]
    exact .inr (I.ends k (listed_set hkl (Ne.symm hjk))).2.2
   ·by_cases hki : k = i
    ·subst hki
     rw [gi, gj j hji]
     exact .inl (I.ends j (listed_set hj hji)).2.2
    ·rw [gj j hji, gj k hki]
     exact I.apart j k (listed_set hj hji) (listed_set hkl hki) hjk
  ·intro j hj hnt
   by_cases hji : j = i
   ·subst hji
    rw [gi, gT j (.inr rfl), gR j (.inr rfl)]
    exact hfi
   ·have hjl := listed_set hj hji
    rw [gj j hji, gT j (.inl hjl), gR j (.inl hjl)]
    have hse := I.ends j hjl
    have hij : j ∉ p.t i := hnt i (by rw [Array.getD_eq_getD_getElem?, Array.getElem?_setIfInBounds_self, if_pos (by rw [hls]; exact hil)]; rfl)
    rcases hoj : l[j]? with _ | oj
    ·have := hlt j hjl; rw [List.getElem?_eq_none_iff] at hoj; omega
    have hkj := planOk_spec hp hoj
    have htg : ∀ t ∈ p.t j, listed.getD t false = true := fun t ht => I.down j hjl t (hkj.t t ht).1
    refine hF j _ _ _ w w' (hlt j hjl) (I.fact j hjl (fun k hkl => hnt k (getD_set_true hkl))) hon.size hBs hse.2.2 ?_
    rintro b (⟨hb, hz⟩ | ⟨h1, h2⟩ | ⟨x, hx, h1, h2⟩)
    ·exact hold b hb (fun hzi => by
      rcases hz with h | h | h
      ·exact .inl h
      ·exact .inr h
      ·rw [hzi] at h; cases h; exact absurd rfl hji)
    ·refine hblk b (by omega) (fun t ht => ?_) (fun hzi => .inr (by have := hzw i hzi; omega))
     have := I.apart j t hjl (hts t ht) (fun e => hij (e ▸ ht))
     omega
    ·obtain ⟨t, ht, rfl⟩ := List.mem_map.1 hx
     have he := I.ends t (htg t ht)
     refine hblk b (by omega) (fun t' ht' => ?_) (fun hzi => .inr (by have := hzw i hzi; omega))
     have hne' : t ≠ t' := fun e => by
      subst e
      rcases (hk.t t ht').2 j (hlt j hjl) hji ht with h | h
      ·exact hij h
      ·exact hnl (htg i h)
     have := I.apart t t' (htg t ht) (hts t' ht') hne'
     omega
 revert hgs
 generalize (execOp a.eval o).run P w = r
 intro hgs
 cases r with
 | ok n w' =>
   cases n <;> simp only [Gives] at hgs ⊢
   case value v => exact key _ _ hgs
   case skip => exact key _ _ hgs
   case enter f args => exact hgs.mono fun e w'' ⟨v, he, hr⟩ => ⟨v, he, key _ _ hr⟩
 | halt x w' => simp only [Gives] at hgs

def restOf (n : Nat) (listed : Array Bool) : Nat := ((List.range n).filter fun i => !listed.getD i false).length
theorem filter_lt {α : Type} {p q : α → Bool} {x : α} : ∀ (l : List α), x ∈ l → (∀ y, q y = true → p y = true) → p x = true → q x = false → (l.filter q).length < (l.filter p).length
 | [], h, _, _, _ => by cases h
 | y :: l, h, hpq, hx, hq => by
   have hle : ∀ m : List α, (m.filter q).length ≤ (m.filter p).length := fun m => by
    induction m with
    | nil => simp
    | cons z m ih =>
      by_cases hz : q z = true
      ·simp [List.filter_cons, hz, hpq z hz]; exact ih
      ·by_cases hz' : p z = true
       ·simp [List.filter_cons, hz, hz']; omega
       ·simp [List.filter_cons, hz, hz']; exact ih
   rcases List.mem_cons.1 h with rfl | h
   ·simp [List.filter_cons, hx, hq]; have := hle l; omega
   ·have ih := filter_lt l h hpq hx hq
    by_cases hz : q y = true
    ·simp [List.filter_cons, hz, hpq y hz]; exact ih
    ·by_cases hz' : p y = true
     ·simp [List.filter_cons, hz, hz']; omega
     ·simp [List.filter_cons, hz, hz']; exact ih

theorem ready_all {l : List Oper} {p : Plan} {z : Nat} {listed : Array Bool} (hp : planOk l p z = true) (hls : listed.size = l.length) (hr : Region.ready .any l.toArray listed = []) :
  ∀ i, i < l.length → listed.getD i false = true := by
 intro i
 induction i using Nat.strongRecOn with
 | ind i ih =>
   intro hi
   obtain ⟨o, ho⟩ : ∃ o, l[i]? = some o := ⟨l[i], List.getElem?_eq_getElem hi⟩
   have hk := planOk_spec hp ho
   rcases hx : listed.getD i true with _ | _
   ·have : i ∈ Region.ready .any l.toArray listed := mem_ready.2 ⟨hx, o, by simpa using ho, fun e he hb => ih e.on (hk.after e he hb) (by have := hk.after e he hb; omega)⟩
    rw [hr] at this; cases this
   ·rw [Array.getD_eq_getD_getElem?] at hx ⊢
    rw [Array.getElem?_eq_getElem (by rw [hls]; exact hi)] at hx ⊢
    simpa using hx

theorem wpAny_facts {P : Program} {l : List Oper} {p : Plan} {zlo zhi : Nat} {F : Facts} {W : World} {a0 : Act} {Q : Exit → Act → World → Prop} (hp : planOk l p a0.tmps.size = true) (hzw : ∀ i, p.z = some i → zhi ≤ W.heap.size) (hF : Local F p zlo zhi W l.length)
  (hob : ObAll P l p zlo zhi F W a0 l 0) (fin : ∀ listed a w g, RInv l p zlo zhi F W a0 listed a w g → (∀ i, i < l.length → listed.getD i false = true) → listed.size = l.length → Q .normal a w) :
  ∀ (fuel : Nat) (listed : Array Bool) (a : Act) (w : World) (g : Nat → Gh), listed.size = l.length → restOf l.length listed ≤ fuel → RInv l p zlo zhi F W a0 listed a w g → wpAny P .any l.toArray Q fuel listed a w := by
 intro fuel
 induction fuel with
 | zero =>
   intro listed a w g hls hm I
   have hnil : (List.range l.length).filter (fun i => !listed.getD i false) = [] := List.eq_nil_of_length_eq_zero (by unfold restOf at hm; omega)
   have hall : ∀ i, i < l.length → listed.getD i false = true := fun i hi => by
    rcases hx : listed.getD i false with _ | _
    ·have : i ∈ (List.range l.length).filter (fun i => !listed.getD i false) := List.mem_filter.2 ⟨List.mem_range.2 hi, by rw [hx]; rfl⟩
     rw [hnil] at this; cases this
    ·rfl
   refine ⟨?_, fin listed a w g I hall hls⟩
   rcases hr : Region.ready .any l.toArray listed with _ | ⟨i, r⟩
   ·rfl
   ·have hi : i ∈ Region.ready .any l.toArray listed := by rw [hr]; exact List.mem_cons_self
    obtain ⟨h0, o, ho, _⟩ := mem_ready.1 hi
    have hil : i < l.length := (List.getElem?_eq_some_iff.1 (by simpa using ho)).1
    have h1 := hall i hil
    rw [Array.getD_eq_getD_getElem?, Array.getElem?_eq_getElem (by rw [hls]; exact hil)] at h0 h1
    simp at h0 h1
    rw [h0] at h1; cases h1
 | succ fuel ih =>
   intro listed a w g hls hm I
   refine ⟨fun hr => fin listed a w g I (ready_all hp hls hr) hls, fun i hi => ?_⟩
   obtain ⟨h0, o, ho, haf⟩ := mem_ready.1 hi
   have ho' : l[i]? = some o := by simpa using ho
   have hil : i < l.length := (List.getElem?_eq_some_iff.1 ho').1
   have hob' := obAll_get l 0 i o hob ho'
   rw [Nat.zero_add] at hob'
   have hg := rinv_step hp hzw hF ho' hls h0 haf I hob'
   unfold wpOp
   rw [ho]
   have hwant : Region.wanted o (yielded l.toArray a.tmps) = true := by unfold Region.wanted; rw [(planOk_spec hp ho').guard]
   simp only [hwant, if_true]
   refine .inl (wp_of_gives hg ?_)
   rintro v w' ⟨g', I'⟩
   refine ih _ _ _ g' (by simpa using hls) ?_ I'
   have : restOf l.length (listed.setIfInBounds i true) < restOf l.length listed := by
    refine filter_lt (x := i) _ (List.mem_range.2 hil) (fun y hy => ?_) ?_ ?_
    ·rcases hx : listed.getD y false with _ | _
     ·rfl
     ·rw [getD_set_true hx] at hy; cases hy
    ·rw [Array.getD_eq_getD_getElem?, Array.getElem?_eq_getElem (by rw [hls]; exact hil)] at h0 ⊢
     simp at h0 ⊢; exact h0
    ·rw [Array.getD_eq_getD_getElem?, Array.getElem?_setIfInBounds_self, if_pos (by rw [hls]; exact hil)]; rfl
   omega

def closure (l : List Oper) : List (List Nat) := l.foldl (fun acc o => acc ++ [(o.after.toList.filter (Region.binds .any)).flatMap fun e => e.on :: acc.getD e.on []]) []
def planOf (l : List Oper) (R T : List (List Nat)) (z : Option Nat) : Plan := ⟨closure l, R, T, z⟩
/-- all values laid into the frame -/
def putDs : List (Option Tmp) → (Nat → Gh) → Nat → Act → Act
 | [], _, _, a => a
 | d :: r, g, k, a => putDs r g (k + 1) (a.put d (g k).v)
theorem putDs_size (g : Nat → Gh) : ∀ (ds : List (Option Tmp)) (k : Nat) (a : Act), (putDs ds g k a).tmps.size = a.tmps.size
 | [], _, _ => rfl
 | d :: ds, k, a => by rw [putDs, putDs_size g ds]; unfold Act.put; split <;> simp
theorem putDs_defers (g : Nat → Gh) : ∀ (ds : List (Option Tmp)) (k : Nat) (a : Act), (putDs ds g k a).defers = a.defers
 | [], _, _ => rfl
 | d :: ds, k, a => by rw [putDs, putDs_defers g ds]; unfold Act.put; split <;> rfl
theorem putDs_no {g : Nat → Gh} {t : Nat} : ∀ (ds : List (Option Tmp)) (k : Nat) (a : Act), (∀ j : Nat, ds[j]? ≠ some (some t)) → (putDs ds g k a).tmps[t]? = a.tmps[t]?
 | [], _, _, _ => rfl
 | d :: ds, k, a, h => by
   rw [putDs, putDs_no ds _ _ (fun j => by have := h (j + 1); simpa using this)]
   have h1 := h 0
   unfold Act.put
   rcases d with _ | d
   ·rfl
   ·exact Array.getElem?_setIfInBounds_ne (fun e => h1 (by rw [e]; rfl))
theorem putDs_yes {g : Nat → Gh} {t : Nat} : ∀ (ds : List (Option Tmp)) (k j : Nat) (a : Act), ds[j]? = some (some t) → (∀ i : Nat, ds[i]? = some (some t) → i = j) → t < a.tmps.size → (putDs ds g k a).tmps[t]? = some (g (k + j)).v
 | [], _, _, _, h, _, _ => by simp at h
 | d :: ds, k, 0, a, h, hu, ht => by
   simp at h
   subst h
   rw [putDs, putDs_no ds _ _ (fun i e => by have := hu (i + 1) (by simpa using e); omega)]
   show (a.tmps.setIfInBounds t (g k).v)[t]? = _
   rw [Array.getElem?_setIfInBounds_self, if_pos ht]; rfl
 | d :: ds, k, j + 1, a, h, hu, ht => by
   have hsz : t < (a.put d (g k).v).tmps.size := by unfold Act.put; split <;> simpa using ht
   rw [putDs, putDs_yes ds (k + 1) j _ (by simpa using h) (fun i e => by have := hu (i + 1) (by simpa using e); omega) hsz]
   rw [show k + 1 + j = k + (j + 1) by omega]

/-- **A region whose operations make memory, in whatever order.** -/
theorem wp_region_facts {P : Program} {id : Nat} {Q : Exit → Act → World → Prop} {a0 : Act} {W : World} {l : List Oper} (R T : List (List Nat)) (ds : List (Option Tmp)) (z : Option Nat) (zlo zhi : Nat) (hzw : z = none ∨ zhi ≤ W.heap.size) (F : Facts) (hm : P.follows .mixedOrders = true)
  (hp : planOk l (planOf l R T z) a0.tmps.size = true) (hds : l.map (·.dst) = ds)
  (hF : Local F (planOf l R T z) zlo zhi W.drew l.length) (hob : ObAll P l (planOf l R T z) zlo zhi F W.drew a0 l 0)
  (fin : ∀ (g : Nat → Gh) (w : World), OldIs zlo zhi (z = none) W w → (∀ i ∈ List.range l.length, W.drew.heap.size ≤ (g i).s ∧ (g i).s ≤ (g i).e ∧ (g i).e ≤ w.heap.size) →
    (∀ i ∈ List.range l.length, ∀ j ∈ List.range l.length, i ≠ j → (g i).e ≤ (g j).s ∨ (g j).e ≤ (g i).s) →
    (∀ i ∈ List.range l.length, (∀ k ∈ List.range l.length, i ∉ (planOf l R T z).t k) → F i (g i) (tgOf (planOf l R T z) g i) (((planOf l R T z).r i).map g) w) → Q .normal (putDs ds g 0 a0) w) :
  (Code.region id l.toArray true).wp P Q a0 W := by
 refine wp_region_any hm ?_
 have h0 : ∀ i, (Array.replicate l.toArray.size false).getD i false ≠ true := fun i h => by
  rw [Array.getD_eq_getD_getElem?] at h
  rcases Nat.lt_or_ge i l.length with hi | hi
  ·simp [hi] at h
  ·simp [hi] at h
 refine wpAny_facts (W := W.drew) hp (fun i hi => hzw.elim (fun h => by subst h; cases hi) (fun h => h)) hF hob (fun listed a w g I hall hls => ?_) _ _ _ _ (fun _ => Gh.no) (by simp) ?_ ⟨⟨rfl, rfl, rfl, Nat.le_refl _, fun _ _ _ => rfl⟩, rfl, rfl, fun i h => absurd h (h0 i), fun i d h => absurd h (h0 i), fun _ _ => rfl, fun i h => absurd h (h0 i), fun i j h => absurd h (h0 i), fun i h => absurd h (h0 i)⟩
 ·have hin : ∀ i, listed.getD i false = true → i < l.length := fun j hj => by
   rw [← hls]
   rcases Nat.lt_or_ge j listed.size with h | h
   ·exact h
   ·rw [Array.getD_eq_getD_getElem?, Array.getElem?_eq_none h] at hj; cases hj
  have hdj : ∀ (j t : Nat), ds[j]? = some (some t) ↔ dstOf l j = some t := fun j t => by
   rw [← hds, List.getElem?_map, dstOf]
   rcases l[j]? with _ | o <;> simp
  have he : a = putDs ds g 0 a0 := by
   have h1 : a.tmps = (putDs ds g 0 a0).tmps := by
    refine Array.ext_getElem? fun t => ?_
    by_cases hq : ∃ j, j < l.length ∧ dstOf l j = some t
    ·obtain ⟨j, hj, hd⟩ := hq
     obtain ⟨o, ho⟩ : ∃ o, l[j]? = some o := ⟨l[j], List.getElem?_eq_getElem hj⟩
     have hk := planOk_spec hp ho
     have hdo : o.dst = some t := by simpa [dstOf, ho] using hd
     rw [I.yes j t (hall j hj) hd, putDs_yes ds 0 j _ ((hdj j t).2 hd) (fun k hkd => ?_) (hk.dst t hdo).1, Nat.zero_add]
     have hkd := (hdj k t).1 hkd
     by_cases hkj : k = j
     ·exact hkj
     ·exact absurd hkd ((hk.dst t hdo).2 k (dstOf_lt hkd) hkj)
    ·rw [I.no t (fun j hj hd => hq ⟨j, hin j hj, hd⟩), putDs_no _ _ _ (fun j hd => hq ⟨j, dstOf_lt ((hdj j t).1 hd), (hdj j t).1 hd⟩)]
   have h2 : a.defers = (putDs ds g 0 a0).defers := by rw [I.dfr, putDs_defers]
   cases a; cases hpp : putDs ds g 0 a0
   rw [hpp] at h1 h2
   simp only at h1 h2
   rw [h1, h2]
  rw [he]
  exact fin g w ⟨I.below.os, I.below.tape, I.below.output, I.below.size, fun k hk hq => I.below.block k hk (hq.imp (fun h z' hz' => by subst h; cases hz') (fun h => h))⟩ (fun i hi => I.ends i (hall i (List.mem_range.1 hi))) (fun i hi j hj => I.apart i j (hall i (List.mem_range.1 hi)) (hall j (List.mem_range.1 hj)))
   (fun i hi hk => I.fact i (hall i (List.mem_range.1 hi)) (fun k hkl => hk k (List.mem_range.2 (hin k hkl))))
 ·unfold restOf
  have := List.length_filter_le (fun i => !(Array.replicate l.toArray.size false).getD i false) (List.range l.length)
  simpa using this

end Go.Proofs.YtmmepogjocfefaaGreat
