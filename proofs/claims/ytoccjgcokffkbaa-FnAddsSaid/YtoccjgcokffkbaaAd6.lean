/- Entries that are alike: == and !=, and the laws' helper. big, begins: small helpers of the laws. The topics of a log, rising: the plain law. Sort and Compact of strings, laid at this seat. Where the entries of a right log lie: the plain law. FnAdds: the walk. -/
import Derived.Test.YtoccjgcokffkbaaAd3
import Derived.BigQuiet
import Derived.Deep.QuietTactic
import Derived.Test.YtoccjgcokffkbaaAd1
import Derived.Lib.SlicesCompact
import Derived.Test.YtoccjgcokffkbaaAd2
import Derived.Shelf.Sort.Plain
import Derived.Shelf.Slices.CompactS
import Derived.Shelf.Slices.In.SortNone
import Derived.Ground.NamesProg
import Derived.Lib.Agree
import Derived.Test.YtoccjgcokffkbaaAd5
import Derived.Deep.DeepCutAuto
namespace Go.Proofs.Ytoccjgcokffkbaa
set_option linter.unusedVariables false
set_option linter.unusedSimpArgs false
open Go.RowKit Go.WideMaps
theorem Ent.eq_of {a b : Ent} (h1 : a.topic = b.topic) (h2 : a.index = b.index) (h3 : a.time = b.time) (h4 : a.key = b.key) (h5 : a.body = b.body) : a = b := by
 cases a; cases b; simp_all
instance : DecidableEq Ent := fun a b => if h : a.topic = b.topic ∧ a.index = b.index ∧ a.time = b.time ∧ a.key = b.key ∧ a.body = b.body then isTrue (Ent.eq_of h.1 h.2.1 h.2.2.1 h.2.2.2.1 h.2.2.2.2) else isFalse (fun e => h (by subst e; exact ⟨rfl, rfl, rfl, rfl, rfl⟩))
theorem enRow : (55 : TypeId) < Try.prog.types.size := of_decide_eq_true (by kernel_rfl)
theorem enWide : (match Try.prog.underlying 55 with | some (.array _ _) | some (.struct _) => true | _ => false) = true := by rw [Try.underlying55]
theorem enKA : Try.prog.keyTypeAt 2 55 = true := by kernel_rfl
set_option maxRecDepth 100000 in
theorem enLaw : KeyLaw Try.prog 55 := deep_law_laid keyLaid (m := 2) (by omega) enRow enKA enWide
theorem enKT : Try.prog.keyType 55 = true := by kernel_rfl
theorem enCO : Try.prog.cellsOf 55 = 5 := by kernel_rfl
set_option maxRecDepth 100000 in
set_option maxHeartbeats 400000 in
theorem enKey (r : Ent) (hf : r.fits) : ∃ l, keyOf Try.prog 55 (.agg #[.string r.topic, .int .i64 r.index, .int .i64 r.time, .string r.key, .string r.body]) = some l := by
 obtain ⟨h1, h2, h3, h4, h5⟩ := hf
 have hF : (Value.agg #[.string r.topic, .int .i64 r.index, .int .i64 r.time, .string r.key, .string r.body]).formed Try.prog 55 = true := by simp [Value.formed, Try.underlying55, enCO]
 obtain ⟨m, hm⟩ := keySz
 have c1 := cells_str
 have c2 := cells_int
 have w1 := i64_wf h1
 have w2 := i64_wf h2
 have hk : ∃ L, Try.prog.keyLits (Try.prog.types.size + 1) 55 (Value.agg #[.string r.topic, .int .i64 r.index, .int .i64 r.time, .string r.key, .string r.body]).cells.toList = some L := by
  rw [hm]
  refine ⟨[.string r.topic.data.toList, .int .i64 r.index, .int .i64 r.time, .string r.key.data.toList, .string r.body.data.toList], ?_⟩
  simp [Program.keyLits, Value.cells, Try.underlying55, Try.underlying9, Try.underlying3, enCO, c1, c2, h3, h4, h5, w1, w2]
 obtain ⟨L, hL⟩ := hk
 refine ⟨.string (keyBytes L), ?_⟩
 unfold keyOf
 simp only [Try.underlying55, enKT, hF, hL, Bool.and_self, if_true, Option.map_some]
theorem enV_inj {a b : Ent} (h : (.agg #[.string a.topic, .int .i64 a.index, .int .i64 a.time, .string a.key, .string a.body] : Value) = .agg #[.string b.topic, .int .i64 b.index, .int .i64 b.time, .string b.key, .string b.body]) : a = b := by
 simp only [Value.agg.injEq] at h
 have h2 := congrArg Array.toList h
 simp only [List.cons.injEq, Value.string.injEq, Value.int.injEq, true_and, and_true] at h2
 exact Ent.eq_of h2.1 h2.2.1 h2.2.2.1 h2.2.2.2.1 h2.2.2.2.2
set_option maxRecDepth 100000 in
theorem eqEnt (a b : Ent) (ha : a.fits) (hb : b.fits) (W : World) : (Op.equal 55 (.agg #[.string a.topic, .int .i64 a.index, .int .i64 a.time, .string a.key, .string a.body]) (.agg #[.string b.topic, .int .i64 b.index, .int .i64 b.time, .string b.key, .string b.body])).run Try.prog W = .ok (decide (a = b)) W := by
 obtain ⟨la, hla⟩ := enKey a ha
 obtain ⟨lb, hlb⟩ := enKey b hb
 obtain ⟨r, hr, hiff⟩ := run_equal_deep W (m := 2) (by omega) enKA enWide hla hlb
 have h2 : r = decide (a = b) := by
  by_cases hab : a = b
  ·subst hab
   obtain rfl : la = lb := Option.some.inj (hla.symm.trans hlb)
   rw [decide_eq_true rfl, hiff.2 rfl]
  ·rw [decide_eq_false hab]
   cases r
   ·rfl
   ·exfalso
    have := hiff.1 rfl
    subst this
    exact hab (enV_inj (enLaw.inj hla hlb))
 rw [hr, h2]
theorem eqlEnt (a : Ent) (ha : a.fits) (W : World) : (binOp .eql 55 (.agg #[.string a.topic, .int .i64 a.index, .int .i64 a.time, .string a.key, .string a.body]) (.agg #[.string a.topic, .int .i64 a.index, .int .i64 a.time, .string a.key, .string a.body])).run Try.prog W = .ok (.bool true) W := by
 have hr := eqEnt a a ha ha W
 rw [decide_eq_true rfl] at hr
 simp only [binOp]
 simp [hr]
theorem neqEnt (a : Ent) (ha : a.fits) (W : World) : (binOp .neq 55 (.agg #[.string a.topic, .int .i64 a.index, .int .i64 a.time, .string a.key, .string a.body]) (.agg #[.string a.topic, .int .i64 a.index, .int .i64 a.time, .string a.key, .string a.body])).run Try.prog W = .ok (.bool false) W := by
 have hr := eqEnt a a ha ha W
 rw [decide_eq_true rfl] at hr
 simp only [binOp]
 simp [hr]
set_option maxRecDepth 100000 in
set_option maxHeartbeats 400000 in
theorem sameEntries_c (A1 A2 : Option Addr) (c1 c2 lo1 hi1 lo2 hi2 n : Nat) (l : List Ent) (w : World) (hr1 : Rd w lo1 hi1 A1 (ents l)) (hr2 : Rd w lo2 hi2 A2 (ents l)) (hn : l.length = n) (h1 : n ≤ 1048576) (hf : ∀ x ∈ l, x.fits) :
  Calls Try.prog 17 #[.slice A1 n c1, .slice A2 n c2] w fun e w' => e = .returned (.bool true) ∧ Below w.heap.size w w' := by
 have HN := Lib.hid hn
 have HR1 := Lib.hid hr1
 have HR2 := Lib.hid hr2
 have HF := Lib.hid hf
 clear hn hr1 hr2 hf
 go_enter Try.func17, Try.ntmps17
 go_wp2
 go_loopw [5] (fun i wr => ∃ k : Nat, k ≤ n ∧ i = .int .i64 k ∧ Below w.heap.size w wr) (fun i _ => n - (intOf i).toNat)
 case atStart => exact ⟨0, Nat.zero_le _, rfl, Below.refl _ _⟩
 case round =>
  obtain ⟨k, hk, rfl, hb0⟩ := hrel
  have HB0 := Lib.hid hb0
  clear hb0
  by_cases hlt : k < n
  ·obtain ⟨b, off, x, rfl, hb, hks, d0, d1, d2, d3, d4⟩ := ent_cells (HR1.out.below HB0.out) (k := k) (by rw [HN.out]; exact hlt)
   obtain ⟨b2, off2, y, rfl, hb2, hks2, e0, e1, e2, e3, e4⟩ := ent_cells (HR2.out.below HB0.out) (k := k) (by rw [HN.out]; exact hlt)
   obtain rfl : x = y := Option.some.inj (hks.symm.trans hks2)
   have hI : (k : Int) < n := by omega
   have hne := neqEnt x (HF.out x (List.mem_of_getElem? hks))
   clear hks hks2
   go_wp2_with fail
   go_quiet (fail)
   generalize hw5 : wr.drewN _ = w5
   have HB5 : Hid (Below w.heap.size w w5) := by rw [Hid, ← hw5]; exact below_then HB0.out (below_drewN _ _) HB0.out.size
   clear hw5 d0 d1 d2 d3 d4 e0 e1 e2 e3 e4 hne
   go_wp2
   go_roundw
   case rel => exact ⟨k + 1, by omega, by go_num, HB5.out⟩
   case measure => simp [intOf]; omega
  ·obtain rfl : k = n := by omega
   go_wp2
   go_ret
   exact ⟨rfl, HB0.out⟩
end Go.Proofs.Ytoccjgcokffkbaa
namespace Go.Proofs.Ytoccjgcokffkbaa
set_option linter.unusedVariables false
set_option linter.unusedSimpArgs false
open Go.RowKit
set_option maxRecDepth 100000 in
set_option maxHeartbeats 400000 in
theorem big_c (n g : Nat) (B : Option Addr) (w : World) (hn : n ≤ maxLen) : Calls Try.prog 7 #[.slice B n g] w fun e w' => e = .returned (.bool (decide (1048576 < n))) ∧ w = w' := by
 unfold maxLen at hn
 go_enter Try.func7, Try.ntmps7
 rcases Nat.lt_or_ge 1048576 n with h | h
 ·have hI : (1048576 : Int) < n := by omega
  go_wp2
  go_ret
  exact ⟨ret_bool (by first | rfl | (rw [decide_eq_true h]; simp [h]) | simp [h]), rfl⟩
 ·have hI : ¬ (1048576 : Int) < n := by omega
  go_wp2
  go_ret
  exact ⟨ret_bool (by first | rfl | simp [h] | (rw [decide_eq_false (by omega)]; simp; omega)), rfl⟩
end Go.Proofs.Ytoccjgcokffkbaa
namespace Go.Proofs.Ytoccjgcokffkbaa
set_option linter.unusedVariables false
set_option linter.unusedSimpArgs false
open Go.Lib
theorem l8_trans {a b c : List UInt8} (h : a < b) (k : b < c) : a < c := List.lt_trans h k
theorem l8_lt {a b : List UInt8} (h : a ≤ b) (k : a ≠ b) : a < b := by
 rcases Decidable.em (a < b) with h1 | h1
 ·exact h1
 ·exact absurd (List.le_antisymm h (List.not_lt.1 h1)) k
theorem l8_irr (a : List UInt8) : ¬ a < a := List.lt_irrefl a
theorem compUp_spec (d : Array (List UInt8)) (hd : ∀ i j, i ≤ j → j < d.size → d[i]! ≤ d[j]!) : ∀ m, m ≤ d.size →
  (∀ x, x ∈ compactUpTo d m ↔ ∃ j, j < m ∧ d[j]! = x) ∧ (compactUpTo d m).Pairwise (· < ·)
 | 0, _ => ⟨fun x => by simp [compactUpTo], by simp [compactUpTo]⟩
 | m + 1, h => by
   obtain ⟨h1, h2⟩ := compUp_spec d hd m (by omega)
   rw [compactUpTo_succ]
   rcases hk : keeps d m with _ | _
   ·simp only [Bool.false_eq_true, if_false, List.append_nil]
    refine ⟨fun x => ⟨fun hx => ?_, fun ⟨j, hj, hx⟩ => ?_⟩, h2⟩
    ·obtain ⟨j, hj, hx⟩ := (h1 x).1 hx; exact ⟨j, by omega, hx⟩
    ·rcases Nat.lt_or_ge j m with hjm | hjm
     ·exact (h1 x).2 ⟨j, hjm, hx⟩
     ·obtain rfl : j = m := by omega
      simp only [keeps, decide_eq_false_iff_not, not_or] at hk
      refine (h1 x).2 ⟨j - 1, by omega, ?_⟩
      rw [← hx]; exact (Classical.not_not.1 hk.2).symm
   ·simp only [if_true]
    refine ⟨fun x => ⟨fun hx => ?_, fun ⟨j, hj, hx⟩ => ?_⟩, ?_⟩
    ·rcases List.mem_append.1 hx with hx | hx
     ·obtain ⟨j, hj, hx⟩ := (h1 x).1 hx; exact ⟨j, by omega, hx⟩
     ·exact ⟨m, by omega, (List.mem_singleton.1 hx).symm⟩
    ·rcases Nat.lt_or_ge j m with hjm | hjm
     ·exact List.mem_append_left _ ((h1 x).2 ⟨j, hjm, hx⟩)
     ·obtain rfl : j = m := by omega
      exact List.mem_append_right _ (List.mem_singleton.2 hx.symm)
    ·rw [List.pairwise_append]
     refine ⟨h2, List.pairwise_singleton _ _, fun a ha b hb => ?_⟩
     rw [List.mem_singleton.1 hb]
     obtain ⟨j, hj, rfl⟩ := (h1 a).1 ha
     simp only [keeps, decide_eq_true_eq] at hk
     have h3 : d[m - 1]! < d[m]! := l8_lt (hd (m - 1) m (by omega) (by omega)) (fun e => by rcases hk with hk | hk; omega; exact hk e.symm)
     rcases Nat.lt_or_ge j (m - 1) with h4 | h4
     ·rcases Decidable.em (d[j]! = d[m - 1]!) with e | e
      ·rw [e]; exact h3
      ·exact l8_trans (l8_lt (hd j (m - 1) (by omega) (by omega)) e) h3
     ·obtain rfl : j = m - 1 := by omega
      exact h3
def topS (zs : List (List UInt8)) : List (List UInt8) := compact (zs.mergeSort fun x y => decide (x ≤ y))
theorem topS_spec (zs : List (List UInt8)) : (∀ x, x ∈ topS zs ↔ x ∈ zs) ∧ (topS zs).Pairwise (· < ·) := by
 have hs := List.pairwise_mergeSort (le := fun x y : List UInt8 => decide (x ≤ y)) (fun a b c h1 h2 => by simp at *; exact List.le_trans h1 h2) (fun a b => by simp; exact List.le_total a b) zs
 have hm := fun x => List.mem_mergeSort (le := fun x y : List UInt8 => decide (x ≤ y)) (l := zs) (a := x)
 unfold topS compact
 generalize zs.mergeSort (fun x y => decide (x ≤ y)) = ys at *
 have hd : ∀ i j, i ≤ j → j < ys.toArray.size → ys.toArray[i]! ≤ ys.toArray[j]! := by
  intro i j hij hj
  have hj' : j < ys.length := by simpa using hj
  rw [getElem!_pos ys.toArray i (by simp; omega), getElem!_pos ys.toArray j (by simp; omega)]
  rcases Nat.lt_or_ge i j with h | h
  ·have := List.pairwise_iff_getElem.1 hs i j (by omega) hj' h
   simpa using this
  ·obtain rfl : i = j := by omega
   exact List.le_refl _
 obtain ⟨h1, h2⟩ := compUp_spec ys.toArray hd ys.length (by simp)
 refine ⟨fun x => ?_, h2⟩
 rw [h1, ← hm]
 constructor
 ·rintro ⟨j, hj, rfl⟩
  rw [getElem!_pos ys.toArray j (by simp; omega)]
  simp
 ·intro hx
  obtain ⟨j, hj, rfl⟩ := List.mem_iff_getElem.1 hx
  exact ⟨j, hj, by rw [getElem!_pos ys.toArray j (by simp; omega)]; simp⟩
/-- a topic behind the first k of a rising row -/
def Above (S : List (List UInt8)) (k : Nat) (t : List UInt8) : Prop := k = 0 ∨ ∃ s, S[k - 1]? = some s ∧ s < t
theorem above_at {S : List (List UInt8)} (hp : S.Pairwise (· < ·)) {k j : Nat} (hk : k ≤ S.length) (hj : j < S.length) : Above S k S[j] ↔ k ≤ j := by
 constructor
 ·rintro (h | ⟨s, h, h1⟩)
  ·omega
  ·obtain ⟨hl, rfl⟩ := List.getElem?_eq_some_iff.1 h
   rcases Nat.lt_or_ge j k with hjk | hjk
   ·exfalso
    rcases Nat.lt_or_ge j (k - 1) with h2 | h2
    ·have h3 := List.pairwise_iff_getElem.1 hp j (k - 1) hj hl h2
     exact l8_irr _ (l8_trans h1 h3)
    ·have e : k - 1 = j := by omega
     simp only [e] at h1
     exact l8_irr _ h1
   ·exact hjk
 ·intro h
  rcases Nat.eq_zero_or_pos k with h0 | h0
  ·exact .inl h0
  ·exact .inr ⟨S[k - 1], List.getElem?_eq_getElem (by omega), List.pairwise_iff_getElem.1 hp (k - 1) j (by omega) hj (by omega)⟩
theorem top_end {ts : List (List UInt8)} {k : Nat} (hk : k ≤ (topS ts).length) (h : ∀ t ∈ ts, ¬ Above (topS ts) k t) : k = (topS ts).length := by
 obtain ⟨h1, h2⟩ := topS_spec ts
 rcases Nat.lt_or_ge k (topS ts).length with hl | hl
 ·exact absurd ((above_at h2 hk hl).2 (Nat.le_refl _)) (h _ ((h1 _).1 (List.getElem_mem hl)))
 ·omega
theorem top_next {ts : List (List UInt8)} {k : Nat} {x : List UInt8} (hk : k ≤ (topS ts).length) (hx : x ∈ ts) (ha : Above (topS ts) k x) (h : ∀ t ∈ ts, Above (topS ts) k t → x ≤ t) : (topS ts)[k]? = some x := by
 obtain ⟨h1, h2⟩ := topS_spec ts
 obtain ⟨j, hj, rfl⟩ := List.mem_iff_getElem.1 ((h1 x).2 hx)
 have hkj := (above_at h2 hk hj).1 ha
 rcases Nat.lt_or_ge k j with hl | hl
 ·have h3 := h _ ((h1 _).1 (List.getElem_mem (show k < (topS ts).length by omega))) ((above_at h2 hk (by omega)).2 (Nat.le_refl _))
  have h4 := List.pairwise_iff_getElem.1 h2 k j (by omega) hj hl
  exact absurd (List.le_antisymm h3 (List.le_of_lt h4)) (fun e => l8_irr _ (e ▸ h4))
 ·obtain rfl : k = j := by omega
  exact List.getElem?_eq_getElem hj
/-- the least so far among those behind the first k: nothing, or it -/
def Least (ts : List (List UInt8)) (k i : Nat) (x : List UInt8) : Prop :=
 (x = [] ∧ ∀ j t, j < i → ts[j]? = some t → ¬ Above (topS ts) k t) ∨ (x ≠ [] ∧ x ∈ ts ∧ Above (topS ts) k x ∧ ∀ j t, j < i → ts[j]? = some t → Above (topS ts) k t → x ≤ t)
theorem Least.skip {ts : List (List UInt8)} {k i : Nat} {x t : List UInt8} (h : Least ts k i x) (ht : ts[i]? = some t) (hs : ¬ Above (topS ts) k t ∨ (x ≠ [] ∧ ¬ t < x)) : Least ts k (i + 1) x := by
 rcases h with ⟨h1, h2⟩ | ⟨h1, h2, h3, h4⟩
 ·refine .inl ⟨h1, fun j u hj hu => ?_⟩
  rcases Nat.lt_or_ge j i with hl | hl
  ·exact h2 j u hl hu
  ·obtain rfl : j = i := by omega
   rw [ht] at hu; cases hu
   rcases hs with hs | hs
   ·exact hs
   ·exact absurd h1 hs.1
 ·refine .inr ⟨h1, h2, h3, fun j u hj hu ha => ?_⟩
  rcases Nat.lt_or_ge j i with hl | hl
  ·exact h4 j u hl hu ha
  ·obtain rfl : j = i := by omega
   rw [ht] at hu; cases hu
   rcases hs with hs | hs
   ·exact absurd ha hs
   ·exact List.not_lt.1 hs.2
theorem Least.take {ts : List (List UInt8)} {k i : Nat} {x t : List UInt8} (h : Least ts k i x) (ht : ts[i]? = some t) (ha : Above (topS ts) k t) (hn : t ≠ []) (hs : x = [] ∨ t < x) : Least ts k (i + 1) t := by
 refine .inr ⟨hn, List.mem_of_getElem? ht, ha, fun j u hj hu hb => ?_⟩
 rcases Nat.lt_or_ge j i with hl | hl
 ·rcases h with ⟨h1, h2⟩ | ⟨h1, h2, h3, h4⟩
  ·exact absurd hb (h2 j u hl hu)
  ·rcases hs with hs | hs
   ·exact absurd hs h1
   ·exact List.le_trans (List.le_of_lt hs) (h4 j u hl hu hb)
 ·obtain rfl : j = i := by omega
  rw [ht] at hu; cases hu
  exact List.le_refl _
theorem Least.fin {ts : List (List UInt8)} {k : Nat} {x : List UInt8} (h : Least ts k ts.length x) (hk : k ≤ (topS ts).length) : (x = [] → k = (topS ts).length) ∧ (x ≠ [] → (topS ts)[k]? = some x) := by
 have hm : ∀ t, t ∈ ts → ∃ j, j < ts.length ∧ ts[j]? = some t := fun t ht => by
  obtain ⟨j, hj, rfl⟩ := List.mem_iff_getElem.1 ht; exact ⟨j, hj, List.getElem?_eq_getElem hj⟩
 rcases h with ⟨h1, h2⟩ | ⟨h1, h2, h3, h4⟩
 ·exact ⟨fun _ => top_end hk (fun t ht => let ⟨j, hj, e⟩ := hm t ht; h2 j t hj e), fun e => absurd h1 e⟩
 ·exact ⟨fun e => absurd e h1, fun _ => top_next hk h2 h3 (fun t ht ha => let ⟨j, hj, e⟩ := hm t ht; h4 j t hj e ha)⟩
end Go.Proofs.Ytoccjgcokffkbaa
namespace Go.Proofs.Ytoccjgcokffkbaa
set_option linter.unusedVariables false
set_option linter.unusedSimpArgs false
open Go.Shelf Go.RowKit
open Go.Sort
/-- the text of these bytes -/
def TB (x : List UInt8) : ByteArray := ⟨x.toArray⟩
theorem strs_TB (ys : List (List UInt8)) : strs (ys.map TB) = ys.map encStr := by rw [strs, List.map_map]; rfl
theorem Holds.own {w : World} {g : Nat} {ys : List (List UInt8)} (h : Holds encStr w g 0 ys.toArray) (hg : g < w.heap.size) (hf : ∀ j, w.frozen? ⟨g, j, none⟩ = false) : Own w g (g + 1) (some ⟨g, 0, none⟩) (strs (ys.map TB)) := by
 intro _
 refine ⟨g, 0, rfl, Nat.le_refl _, Nat.lt_succ_self _, by omega, fun j u hu => ?_, fun j => hf _⟩
 rw [strs_TB, List.getElem?_map] at hu
 obtain ⟨x, hx, rfl⟩ := Option.map_eq_some_iff.1 hu
 obtain ⟨hj, rfl⟩ := List.getElem?_eq_some_iff.1 hx
 have := (h j (by simpa using hj)).1
 rw [getElem!_pos _ j (by simpa using hj)] at this
 simpa using this
end Go.Proofs.Ytoccjgcokffkbaa
namespace Go.Proofs.Ytoccjgcokffkbaa
set_option linter.unusedVariables false
set_option linter.unusedSimpArgs false
open Go.RowKit
theorem log_at {l : List Ent} (h : logOk l = true) {n : Nat} {e : Ent} (he : l[n]? = some e) : entryOk e = true ∧ (cnt (l.take n) e.topic : Int) = e.index := by
 rw [logOk, Bool.and_eq_true, rightTo, List.all_eq_true] at h
 have := h.2 n (List.mem_range.2 (List.getElem?_eq_some_iff.1 he).1)
 rw [rightAt_eq he, Bool.and_eq_true] at this
 exact ⟨this.1, of_decide_eq_true this.2⟩
theorem ent_all {e : Ent} (h : entryOk e = true) : nameOk e.topic = true ∧ 0 ≤ e.index ∧ e.index ≤ 511 ∧ partsOk e.time e.key e.body = true := by
 rw [entryOk, Bool.and_eq_true, Bool.and_eq_true] at h
 have := inR_true.1 h.2.1
 exact ⟨h.1, this.1, this.2, h.2.2⟩
theorem toList_inj {a b : ByteArray} (h : (a.toList == b.toList) = true) : a = b := by
 rcases Decidable.em (a = b) with e | e
 ·exact e
 ·rw [beq_no e] at h; cases h
theorem cnt_mono {l : List Ent} {t : ByteArray} {m : Nat} : ∀ {k : Nat}, cnt (l.take m) t ≤ cnt (l.take (m + k)) t
 | 0 => Nat.le_refl _
 | k + 1 => by
   refine Nat.le_trans (cnt_mono (k := k)) ?_
   rcases Nat.lt_or_ge (m + k) l.length with h | h
   ·rw [show m + (k + 1) = m + k + 1 by omega, cnt_take t (List.getElem?_eq_getElem h)]; omega
   ·rw [List.take_of_length_le (show l.length ≤ m + (k + 1) by omega), List.take_of_length_le h]; exact Nat.le_refl _
theorem firstFrom_at {p : Ent → Bool} : ∀ {l : List Ent} {j n : Nat} {e : Ent}, l[n]? = some e → p e = true → (∀ m x, m < n → l[m]? = some x → p x = false) → firstFrom p l j = ((j + n : Nat) : Int)
 | [], j, n, e, h, _, _ => by cases h
 | x :: l, j, 0, e, h, hp, _ => by cases h; rw [firstFrom, if_pos hp]; rfl
 | x :: l, j, n + 1, e, h, hp, hq => by
   rw [firstFrom, if_neg (by rw [hq 0 x (by omega) rfl]; exact Bool.false_ne_true), firstFrom_at (l := l) (j := j + 1) (n := n) (e := e) h hp (fun m y hm hy => hq (m + 1) y (by omega) hy)]
   congr 1; omega
theorem isTI_true {t : ByteArray} {i : Int} {e : Ent} : isTI t i e = true ↔ e.topic = t ∧ e.index = i := by
 rw [isTI, Bool.and_eq_true]
 constructor
 ·rintro ⟨h1, h2⟩; exact ⟨toList_inj h1, by simpa using h2⟩
 ·rintro ⟨rfl, rfl⟩; exact ⟨beq_self_eq_true _, beq_self_eq_true _⟩
/-- each entry is found by its topic and index -/
theorem leaf_at {l : List Ent} (h : logOk l = true) {n : Nat} {e : Ent} (he : l[n]? = some e) : firstFrom (isTI e.topic e.index) l 0 = (n : Int) := by
 have hn := (List.getElem?_eq_some_iff.1 he).1
 have h1 := (log_at h he).2
 have h2 := firstFrom_at (p := isTI e.topic e.index) (l := l) (j := 0) he (isTI_true.2 ⟨rfl, rfl⟩) (fun m x hm hx => by
  rcases hq : isTI e.topic e.index x with _ | _
  ·rfl
  ·obtain ⟨q1, q2⟩ := isTI_true.1 hq
   have h3 := (log_at h hx).2
   have h4 := cnt_yes hx q1
   have h5 := cnt_mono (l := l) (t := e.topic) (m := m + 1) (k := n - (m + 1))
   rw [show m + 1 + (n - (m + 1)) = n by omega, h4] at h5
   rw [q1] at h3
   omega)
 rw [Nat.zero_add] at h2
 exact h2
theorem cnt_snoc (l : List Ent) (e : Ent) (t : ByteArray) : cnt (l ++ [e]) t = cnt l t + if e.topic = t then 1 else 0 := by
 rw [cnt, sumBy_append]; rfl
theorem lastTo_snoc {p : Ent → Bool} {l : List Ent} {e : Ent} (h : p e = true) : lastTo p (l ++ [e]) (l.length + 1) = (l.length : Int) :=
 lastTo_hit (by rw [List.getElem?_append_right (Nat.le_refl _), Nat.sub_self]; rfl) h
/-- what is found of an entry behind its adding -/
theorem added {l : List Ent} {t k b : ByteArray} {ti : Int} (h : logOk l = true) (hc : addCode l t ti k b = 0) :
  logOk (l ++ [newEnt l t ti k b]) = true ∧ leafOfM (l ++ [newEnt l t ti k b]) t (cnt l t : Nat) = (l.length : Int) ∧ latestOfM (l ++ [newEnt l t ti k b]) t k = (l.length : Int) ∧ nextOfM (l ++ [newEnt l t ti k b]) t = ((cnt l t + 1 : Nat) : Int) ∧ nextOfM l t = ((cnt l t : Nat) : Int) := by
 have h1 := logOk_add h hc
 have hn := (addCode_0 hc).1
 have hg : (l ++ [newEnt l t ti k b])[l.length]? = some (newEnt l t ti k b) := by rw [List.getElem?_append_right (Nat.le_refl _), Nat.sub_self]; rfl
 refine ⟨h1, ?_, ?_, ?_, ?_⟩
 ·rw [leafOfM, if_pos h1]; exact leaf_at h1 hg
 ·rw [latestOfM, if_pos h1, List.length_append, show [newEnt l t ti k b].length = 1 from rfl]
  refine lastTo_snoc ?_
  rw [isTK]
  show ((t.toList == t.toList) && (k.toList == k.toList)) = true
  rw [beq_self_eq_true, beq_self_eq_true]; rfl
 ·rw [nextOfM, h1, hn, cnt_snoc, if_pos (show (newEnt l t ti k b).topic = t from rfl)]; rfl
 ·rw [nextOfM, h, hn]; rfl
end Go.Proofs.Ytoccjgcokffkbaa
namespace Go.Proofs.Ytoccjgcokffkbaa
set_option linter.unusedVariables false
set_option linter.unusedSimpArgs false
open Go.RowKit
theorem addCode_drawn {x : Ent} (hx : DrawnE x) {l : List Ent} (hl : l.length ≤ 24) : addCode l x.topic x.time x.key x.body = 0 := by
 obtain ⟨h1, h2, h3, h4, h5⟩ := hx
 rw [addCode, if_pos h1, partsOk, inR_true.2 ⟨h3.1, by omega⟩, decide_eq_true (by omega : x.key.size ≤ 40), decide_eq_true (by omega : x.body.size ≤ 400), decide_eq_false (by omega : ¬ 512 ≤ l.length)]
 rfl
theorem Rd.eqL {w : World} {lo hi : Nat} {A : Option Addr} {l m : List Ent} (h : Rd w lo hi A (ents l)) (e : l = m) : Rd w lo hi A (ents m) := e ▸ h
theorem eqlEnt2 (a b : Ent) (h : a = b) (ha : a.fits) (W : World) : (binOp .eql 55 (.agg #[.string a.topic, .int .i64 a.index, .int .i64 a.time, .string a.key, .string a.body]) (.agg #[.string b.topic, .int .i64 b.index, .int .i64 b.time, .string b.key, .string b.body])).run Try.prog W = .ok (.bool true) W := by
 subst h
 exact eqlEnt a ha W
set_option maxRecDepth 100000 in
set_option maxHeartbeats 20000000 in
theorem walk_FnAdds (n g : Nat) (B : Option Addr) (l0 : List Int) (w : World) (hr : Rd w 0 w.heap.size B (bys l0)) (hl : l0.length = n) (hng : n ≤ g) (hn : n ≤ maxLen) (hb : ∀ x ∈ l0, 0 ≤ x ∧ x ≤ 255) :
  Calls Try.prog 4 #[.slice B n g] w fun e w' => e = .returned (.bool true) ∧ Below w.heap.size w w' := by
 by_cases h20 : 1048576 < n
 ·have hd : decide (1048576 < n) = true := decide_eq_true h20
  go_enter Try.func4, Try.ntmps4
  go_wp2_with fail
  refine (big_c n g B _ hn).mono ?_
  rintro e w1 ⟨rfl, rfl⟩
  rw [hd]
  go_wp2
  go_ret
  exact ⟨rfl, Below.refl _ _⟩
 ·have hd : decide (1048576 < n) = false := decide_eq_false h20
  have HDA := Lib.hid (fun W (r : Rd W 0 W.heap.size B (bys l0)) => DrawRightP_c n g B l0 W r hl (by omega) hb)
  have HDD := Lib.hid (fun W (r : Rd W 0 W.heap.size B (bys l0)) => DrawDeed_c n g B l0 W r hl (by omega) hb)
  have HB : Hid (Below w.heap.size w w) := Below.refl _ _
  have HOQ : Hid (Rd w (0) (w.heap.size) (B) (bys l0)) := Rd.base hr
  clear hr hl hb hng
  go_enter Try.func4, Try.ntmps4
  go_wp2_with fail
  refine (big_c n g B _ hn).mono ?_
  rintro e w0_ ⟨rfl, rfl⟩
  rw [hd]
  clear hd hn
  go_wp2_with fail
  refine calls_named (fun w1 hw => ?_)
  have hz1 : w.heap.size + 0 ≤ w1.heap.size := by rw [hw]; first | omega | (simp [World.setCell]; done) | (simp [World.setCell]; omega)
  have hbn : Below w.heap.size w w1 := by rw [hw]; exact (by ((repeat (first | ((with_reducible refine Below.alloc ?_ ?_ _); rotate_left 1; (focus (first | omega | (simp; done) | (simp; omega)))) | (with_reducible refine Below.drew ?_) | ((with_reducible refine Below.setCell ?_ ?_ _); rotate_left 1; (focus (first | omega | (simp; done) | (simp; omega)))))); exact Below.refl _ _))
  replace HB := Lib.hid (below_then HB.out hbn HB.out.size)
  replace HOQ := Lib.hid (HOQ.out.below hbn)
  clear hbn
  clear hw
  refine (HDA.out _ HOQ.out.base).mono ?_
  rintro e w2 ⟨width, E, R, H, A1, A2, ne, nr, nh, ce, cr, ch, c1, c2, m1, m2, es, rs, hs, l1, l2, h, rfl, ⟨hbk, hne, hnr, hnh, hl1, hl2, hm1, hm2, hh, h24⟩, hb⟩
  have hzw2 : w1.heap.size ≤ w2.heap.size := hb.size
  have hzzw2 : w.heap.size ≤ w2.heap.size := by omega
  replace HB := Lib.hid (below_then HB.out hb HB.out.size)
  replace HOQ := Lib.hid (HOQ.out.below hb)
  clear hb
  have HOK : Hid (BrkK w2 (w1.heap.size) (w2.heap.size) (⟨E, R, H, A1, A2, ce, cr, ch, c1, c2⟩) (⟨width, es, rs, hs⟩)) := Lib.hid hbk
  have HPK := Lib.hid (show BrkParts width es rs hs from hbk.ok)
  clear hbk HDA hl1 hl2 hm1 hm2 hh hnr hnh
  go_wp2_with fail
  refine calls_named (fun w3 hw => ?_)
  have hz3 : w2.heap.size + 1 ≤ w3.heap.size := by rw [hw]; first | omega | (simp [World.setCell]; done) | (simp [World.setCell]; omega)
  have hzz3 : w.heap.size ≤ w3.heap.size := by omega
  have hbn : Below w2.heap.size w2 w3 := by rw [hw]; exact (by ((repeat (first | ((with_reducible refine Below.alloc ?_ ?_ _); rotate_left 1; (focus (first | omega | (simp; done) | (simp; omega)))) | (with_reducible refine Below.drew ?_) | ((with_reducible refine Below.setCell ?_ ?_ _); rotate_left 1; (focus (first | omega | (simp; done) | (simp; omega)))))); exact Below.refl _ _))
  replace HB := Lib.hid (below_then HB.out hbn HB.out.size)
  replace HOQ := Lib.hid (HOQ.out.below hbn)
  replace HOK := Lib.hid (HOK.out.below hbn)
  clear hbn
  have HXb : Hid (NewBox w3 (w2.heap.size) [.int .i64 width, .slice E ne ce, .slice R nr cr, .slice H nh ch, .int .i64 h.size, .slice A1 m1 c1, .int .i64 h.taken, .slice A2 m2 c2, .int .i64 h.num, .int .i64 h.size, .string h.root, .int .i64 h.taken, .string h.troot]) := by rw [Hid, hw]; exact ⟨by first | omega | (simp [World.setCell]; done) | (simp [World.setCell]; omega), fun o => by rcases o with _ | _ | _ | _ | _ | _ | _ | _ | _ | _ | _ | _ | _ | o <;> go_simp, fun o => by go_simp⟩
  have hxb := HXb.out.2.1
  have hfb := HXb.out.2.2
  have hkb := HXb.out.1
  clear hw
  refine (HDD.out _ HOQ.out.base).mono ?_
  rintro e w4 ⟨kd, x, r, D, rfl, ⟨hkd, hx, hr⟩, hb⟩
  have hzw4 : w3.heap.size ≤ w4.heap.size := hb.size
  have hzzw4 : w.heap.size ≤ w4.heap.size := by omega
  replace HB := Lib.hid (below_then HB.out hb HB.out.size)
  replace HOQ := Lib.hid (HOQ.out.below hb)
  replace HOK := Lib.hid (HOK.out.below hb)
  replace HXb := Lib.hid (HXb.out.below hb)
  clear hxb hfb hkb
  have hxb := HXb.out.2.1
  have hfb := HXb.out.2.2
  have hkb := HXb.out.1
  clear hb
  clear HOQ
  clear HDD hkd hr
  have hlog := HPK.out.log
  obtain ⟨f1, _, _, g1, _⟩ := parts_fits HPK.out
  have hcode := addCode_drawn hx (l := es) (by omega)
  have hex := newEnt_ok hcode
  obtain ⟨q1, q2, q3, q4, q5⟩ := added hlog hcode
  obtain ⟨y, hy⟩ : ∃ y, newEnt es x.topic x.time x.key x.body = y := ⟨_, rfl⟩
  have hyi : ((cnt es x.topic : Nat) : Int) = y.index := by rw [← hy]; rfl
  have hye : y = ⟨x.topic, y.index, x.time, x.key, x.body⟩ := by rw [← hy]; rfl
  have e1 : addEL es x.topic x.time x.key x.body = es ++ [y] := by rw [addEL, if_pos hlog, (addL_yes hcode).1, hy]
  have e2 : addELeaf es x.topic x.time x.key x.body = (ne : Nat) := by rw [addELeaf, if_pos hlog, (addL_yes hcode).2, hne]
  have e3 : addECode es x.topic x.time x.key x.body = 0 := by rw [addECode, if_pos hlog, hcode]
  have e4 : (es ++ [y]).length = ne + 1 := by rw [List.length_append, hne]; rfl
  have e5 : (es ++ [y])[ne]? = some y := by rw [← hne, List.getElem?_append_right (Nat.le_refl _), Nat.sub_self]; rfl
  rw [hy] at q1 q2 q3 q4 hex
  rw [hyi] at q2 q5
  replace q4 : nextOfM (es ++ [y]) x.topic = y.index + 1 := by rw [q4, ← hyi]; rfl
  rw [hne] at q2 q3
  have hyf := ent_fit hex
  have hyi2 : 0 ≤ y.index ∧ y.index ≤ 511 := by have h9 := (ent_all hex).2; exact ⟨h9.1, h9.2.1⟩
  have hf2 : ∀ z ∈ es ++ [y], z.fits := fun z hz => (List.mem_append.1 hz).elim (f1 z) (fun h9 => by rw [List.mem_singleton.1 h9]; exact hyf)
  have hxt : x.topic.size ≤ 20 := nameOk_size hx.1
  have hxk := hx.2.2.2.1
  have hxb := hx.2.2.2.2
  have HAE := fun W (rr : BrkK W 0 W.heap.size ⟨E, R, H, A1, A2, ce, cr, ch, c1, c2⟩ ⟨width, es, rs, hs⟩) => implAddEntryR_c E ce 0 W.heap.size ne es x.topic x.time x.key x.body W rr.rE hne (by omega) rr.nE f1 (by omega) (by omega) (by omega)
  rw [e1, e2, e3, e4] at HAE
  have HSE := Lib.hid (fun W A c A2 c2 (r1 : Rd W 0 W.heap.size A (ents es)) (r2 : Rd W 0 W.heap.size A2 (ents es)) => sameEntries_c A A2 c c2 0 W.heap.size 0 W.heap.size ne es W r1 r2 hne (by omega) f1)
  have HLO := fun W A c (r1 : Rd W 0 W.heap.size A (ents (es ++ [y]))) => implLogOk_c A c 0 W.heap.size (ne + 1) (es ++ [y]) W r1 e4 (by omega) hf2
  rw [q1] at HLO
  have HNX := fun W (rr : BrkK W 0 W.heap.size ⟨E, R, H, A1, A2, ce, cr, ch, c1, c2⟩ ⟨width, es, rs, hs⟩) => implNextOf_c E ce 0 W.heap.size ne es x.topic W rr.rE hne (by omega) f1 (by omega)
  rw [q5] at HNX
  have HNN := fun W A c (r1 : Rd W 0 W.heap.size A (ents (es ++ [y]))) => implNextOf_c A c 0 W.heap.size (ne + 1) (es ++ [y]) x.topic W r1 e4 (by omega) hf2 (by omega)
  rw [q4] at HNN
  have HLF := fun W A c (r1 : Rd W 0 W.heap.size A (ents (es ++ [y]))) => implLeafOf_c A c 0 W.heap.size (ne + 1) (es ++ [y]) x.topic y.index W r1 e4 (by omega) hf2
  rw [q2] at HLF
  have HLT := fun W A c (r1 : Rd W 0 W.heap.size A (ents (es ++ [y]))) => implLatestOf_c A c 0 W.heap.size (ne + 1) (es ++ [y]) x.topic x.key W r1 e4 (by omega) hf2
  rw [q3] at HLT
  have heq := eqlEnt2 y ⟨x.topic, y.index, x.time, x.key, x.body⟩ hye hyf
  dsimp only at heq
  replace HAE := Lib.hid HAE
  replace HLO := Lib.hid HLO
  replace HNX := Lib.hid HNX
  replace HNN := Lib.hid HNN
  replace HLF := Lib.hid HLF
  replace HLT := Lib.hid HLT
  have HEQ := Lib.hid heq
  have HE4 := Lib.hid e4
  have HE5 := Lib.hid e5
  have HWR : Hid (IntKind.i64.wrap (y.index + 1) = y.index + 1) := Lib.hid (by rw [IntKind.wrap_i64]; omega)
  clear hlog f1 g1 hcode hex q1 q2 q3 q4 q5 hy hyi hye e1 e2 e3 e4 e5 hyf hf2 heq hx hne
  go_wp2_with fail
  refine calls_named (fun w5 hw => ?_)
  have hz5 : w4.heap.size + 2 ≤ w5.heap.size := by rw [hw]; first | omega | (simp [World.setCell]; done) | (simp [World.setCell]; omega)
  have hzz5 : w.heap.size ≤ w5.heap.size := by omega
  have hbn : Below w4.heap.size w4 w5 := by rw [hw]; exact (by ((repeat (first | ((with_reducible refine Below.alloc ?_ ?_ _); rotate_left 1; (focus (first | omega | (simp; done) | (simp; omega)))) | (with_reducible refine Below.drew ?_) | ((with_reducible refine Below.setCell ?_ ?_ _); rotate_left 1; (focus (first | omega | (simp; done) | (simp; omega)))))); exact Below.refl _ _))
  replace HB := Lib.hid (below_then HB.out hbn HB.out.size)
  replace HOK := Lib.hid (HOK.out.below hbn)
  replace HXb := Lib.hid (HXb.out.below hbn)
  clear hxb hfb hkb
  have hxb := HXb.out.2.1
  have hfb := HXb.out.2.2
  have hkb := HXb.out.1
  clear hbn
  have HXe : Hid (NewBox w5 (w4.heap.size) [.string x.topic, .int .i64 x.index, .int .i64 x.time, .string x.key, .string x.body]) := by rw [Hid, hw]; exact ⟨by first | omega | (simp [World.setCell]; done) | (simp [World.setCell]; omega), fun o => by rcases o with _ | _ | _ | _ | _ | o <;> go_simp, fun o => by go_simp⟩
  have hxe := HXe.out.2.1
  have hfe := HXe.out.2.2
  have hke := HXe.out.1
  have HXr : Hid (NewBox w5 (w4.heap.size + 1) [.string r.reader, .string r.topic, .int .i64 r.index]) := by rw [Hid, hw]; exact ⟨by first | omega | (simp [World.setCell]; done) | (simp [World.setCell]; omega), fun o => by rcases o with _ | _ | _ | o <;> go_simp, fun o => by go_simp⟩
  have hxr := HXr.out.2.1
  have hfr := HXr.out.2.2
  have hkr := HXr.out.1
  clear hw
  refine (HAE.out _ HOK.out.base).mono ?_
  rintro e w6 ⟨A9, c9, rfl, hc9, ho9, hb⟩
  have hzw6 : w5.heap.size ≤ w6.heap.size := hb.size
  have hzzw6 : w.heap.size ≤ w6.heap.size := by omega
  replace HB := Lib.hid (below_then HB.out hb HB.out.size)
  replace HOK := Lib.hid (HOK.out.below hb)
  replace HXb := Lib.hid (HXb.out.below hb)
  clear hxb hfb hkb
  have hxb := HXb.out.2.1
  have hfb := HXb.out.2.2
  have hkb := HXb.out.1
  replace HXe := Lib.hid (HXe.out.below hb)
  clear hxe hfe hke
  have hxe := HXe.out.2.1
  have hfe := HXe.out.2.2
  have hke := HXe.out.1
  replace HXr := Lib.hid (HXr.out.below hb)
  clear hxr hfr hkr
  have hxr := HXr.out.2.1
  have hfr := HXr.out.2.2
  have hkr := HXr.out.1
  clear hb
  have HON : Hid (Rd w6 (w5.heap.size) (w6.heap.size) (A9) (ents (es ++ [y]))) := Lib.hid ho9.rd
  clear ho9 HAE
  go_upto_region 7 with fail
  refine wp_named (fun w7 hw => ?_)
  have hz7 : w6.heap.size + 1 ≤ w7.heap.size := by rw [hw]; first | omega | (simp [World.setCell]; done) | (simp [World.setCell]; omega)
  have hzz7 : w.heap.size ≤ w7.heap.size := by omega
  have hbn : Below w6.heap.size w6 w7 := by rw [hw]; exact (by ((repeat (first | ((with_reducible refine Below.alloc ?_ ?_ _); rotate_left 1; (focus (first | omega | (simp; done) | (simp; omega)))) | (with_reducible refine Below.drew ?_) | ((with_reducible refine Below.setCell ?_ ?_ _); rotate_left 1; (focus (first | omega | (simp; done) | (simp; omega)))))); exact Below.refl _ _))
  replace HB := Lib.hid (below_then HB.out hbn HB.out.size)
  replace HOK := Lib.hid (HOK.out.below hbn)
  replace HON := Lib.hid (HON.out.below hbn)
  replace HXb := Lib.hid (HXb.out.below hbn)
  clear hxb hfb hkb
  have hxb := HXb.out.2.1
  have hfb := HXb.out.2.2
  have hkb := HXb.out.1
  replace HXe := Lib.hid (HXe.out.below hbn)
  clear hxe hfe hke
  have hxe := HXe.out.2.1
  have hfe := HXe.out.2.2
  have hke := HXe.out.1
  replace HXr := Lib.hid (HXr.out.below hbn)
  clear hxr hfr hkr
  have hxr := HXr.out.2.1
  have hfr := HXr.out.2.2
  have hkr := HXr.out.1
  clear hbn
  have HXl : Hid (NewBox w7 (w6.heap.size) [.slice A9 (ne + 1) c9]) := by rw [Hid, hw]; exact ⟨by first | omega | (simp [World.setCell]; done) | (simp [World.setCell]; omega), fun o => by rcases o with _ | o <;> go_simp, fun o => by go_simp⟩
  have hxl := HXl.out.2.1
  have hfl := HXl.out.2.2
  have hkl := HXl.out.1
  clear hw
  have hpre := fun W => preXE A9 (ne + 1) c9 ne (by omega) W
  have hi1 : ((ne : Int) != (ne : Int)) = false := by simp
  have hi2 : (((ne + 1 : Nat) : Int) != (ne : Int) + 1) = false := by simp
  have HSE2 := Lib.hid (fun v : Later w7 => HSE.out v.v A9 c9 E ce (((HON.out.below v.h).base.entsTake ne).eqL (by rw [List.take_append_of_le_length (by have := HE4.out; rw [List.length_append] at this; change es.length + 1 = ne + 1 at this; omega), List.take_of_length_le (by have := HE4.out; rw [List.length_append] at this; change es.length + 1 = ne + 1 at this; omega)])) (HOK.out.below v.h).base.rE)
  have HLO2 := Lib.hid (fun v : Later w7 => HLO.out v.v A9 c9 (HON.out.below v.h).base)
  have t0 : ∀ v : Later w7, v.v.cell? ⟨(w6.heap.size), 0, none⟩ = some (.slice A9 (ne + 1) c9) := fun v => (later_cell v _ _ hkl).trans (hxl 0)
  have t1 : ∀ v : Later w7, v.v.cell? ⟨(w2.heap.size), 1, none⟩ = some (.slice E ne ce) := fun v => (later_cell v _ _ hkb).trans (hxb 1)
  refine wp_region_later (by kernel_rfl) (by kernel_rfl) ?_
  repeat (go_big_quiet_step ((first | with_reducible exact later_call (HSE2.out _) | with_reducible exact later_call (HLO2.out _))))
  refine wpQuiet_nil ?_
  intro wA h9
  have hb9 := later_below h9
  have hzwA : w7.heap.size ≤ wA.heap.size := hb9.size
  have hzzwA : w.heap.size ≤ wA.heap.size := by omega
  replace HB := Lib.hid (below_then HB.out hb9 HB.out.size)
  replace HOK := Lib.hid (HOK.out.below hb9)
  replace HON := Lib.hid (HON.out.below hb9)
  replace HXb := Lib.hid (HXb.out.below hb9)
  clear hxb hfb hkb
  have hxb := HXb.out.2.1
  have hfb := HXb.out.2.2
  have hkb := HXb.out.1
  replace HXe := Lib.hid (HXe.out.below hb9)
  clear hxe hfe hke
  have hxe := HXe.out.2.1
  have hfe := HXe.out.2.2
  have hke := HXe.out.1
  replace HXr := Lib.hid (HXr.out.below hb9)
  clear hxr hfr hkr
  have hxr := HXr.out.2.1
  have hfr := HXr.out.2.2
  have hkr := HXr.out.1
  replace HXl := Lib.hid (HXl.out.below hb9)
  clear hxl hfl hkl
  have hxl := HXl.out.2.1
  have hfl := HXl.out.2.2
  have hkl := HXl.out.1
  clear h9 hb9 hpre hi1 hi2 HSE2 HLO2 t0 t1 HSE HLO
  obtain ⟨b2, off, y', hEe, hb2, hks2, hcs⟩ := ent_cells HON.out (k := ne) (by rw [HE4.out]; omega)
  obtain rfl : y = y' := by rw [HE5.out] at hks2; exact Option.some.inj hks2
  have c0' := hcs.1
  have c1' := hcs.2.1
  have c2' := hcs.2.2.1
  have c3' := hcs.2.2.2.1
  have c4' := hcs.2.2.2.2
  have hix := idxEnt A9 b2 off (ne + 1) c9 ne hEe (by omega)
  clear hks2 hcs hEe
  go_wp2_with fail
  refine calls_named (fun w8 hw => ?_)
  have hz8 : wA.heap.size + 1 ≤ w8.heap.size := by rw [hw]; first | omega | (simp [World.setCell]; done) | (simp [World.setCell]; omega)
  have hzz8 : w.heap.size ≤ w8.heap.size := by omega
  have hbn : Below wA.heap.size wA w8 := by rw [hw]; exact (by ((repeat (first | ((with_reducible refine Below.alloc ?_ ?_ _); rotate_left 1; (focus (first | omega | (simp; done) | (simp; omega)))) | (with_reducible refine Below.drew ?_) | ((with_reducible refine Below.setCell ?_ ?_ _); rotate_left 1; (focus (first | omega | (simp; done) | (simp; omega)))))); exact Below.refl _ _))
  replace HB := Lib.hid (below_then HB.out hbn HB.out.size)
  replace HOK := Lib.hid (HOK.out.below hbn)
  replace HON := Lib.hid (HON.out.below hbn)
  replace HXb := Lib.hid (HXb.out.below hbn)
  clear hxb hfb hkb
  have hxb := HXb.out.2.1
  have hfb := HXb.out.2.2
  have hkb := HXb.out.1
  replace HXe := Lib.hid (HXe.out.below hbn)
  clear hxe hfe hke
  have hxe := HXe.out.2.1
  have hfe := HXe.out.2.2
  have hke := HXe.out.1
  replace HXr := Lib.hid (HXr.out.below hbn)
  clear hxr hfr hkr
  have hxr := HXr.out.2.1
  have hfr := HXr.out.2.2
  have hkr := HXr.out.1
  replace HXl := Lib.hid (HXl.out.below hbn)
  clear hxl hfl hkl
  have hxl := HXl.out.2.1
  have hfl := HXl.out.2.2
  have hkl := HXl.out.1
  clear hbn
  have HXz : Hid (NewBox w8 (wA.heap.size) [.string y.topic, .int .i64 y.index, .int .i64 y.time, .string y.key, .string y.body]) := by rw [Hid, hw]; exact ⟨by first | omega | (simp [World.setCell]; done) | (simp [World.setCell]; omega), fun o => by rcases o with _ | _ | _ | _ | _ | o <;> go_simp, fun o => by go_simp⟩
  have hxz := HXz.out.2.1
  have hfz := HXz.out.2.2
  have hkz := HXz.out.1
  clear hw
  refine (HNX.out _ HOK.out.base).mono ?_
  rintro e w9 ⟨rfl, hb⟩
  have hzw9 : w8.heap.size ≤ w9.heap.size := hb.size
  have hzzw9 : w.heap.size ≤ w9.heap.size := by omega
  replace HB := Lib.hid (below_then HB.out hb HB.out.size)
  replace HOK := Lib.hid (HOK.out.below hb)
  replace HON := Lib.hid (HON.out.below hb)
  replace HXb := Lib.hid (HXb.out.below hb)
  clear hxb hfb hkb
  have hxb := HXb.out.2.1
  have hfb := HXb.out.2.2
  have hkb := HXb.out.1
  replace HXe := Lib.hid (HXe.out.below hb)
  clear hxe hfe hke
  have hxe := HXe.out.2.1
  have hfe := HXe.out.2.2
  have hke := HXe.out.1
  replace HXr := Lib.hid (HXr.out.below hb)
  clear hxr hfr hkr
  have hxr := HXr.out.2.1
  have hfr := HXr.out.2.2
  have hkr := HXr.out.1
  replace HXl := Lib.hid (HXl.out.below hb)
  clear hxl hfl hkl
  have hxl := HXl.out.2.1
  have hfl := HXl.out.2.2
  have hkl := HXl.out.1
  replace HXz := Lib.hid (HXz.out.below hb)
  clear hxz hfz hkz
  have hxz := HXz.out.2.1
  have hfz := HXz.out.2.2
  have hkz := HXz.out.1
  clear hb
  clear c0' c1' c2' c3' c4' hix HNX
  go_upto_region 11 with fail
  refine wp_named (fun w10 hw => ?_)
  have hz10 : w9.heap.size + 0 ≤ w10.heap.size := by rw [hw]; first | omega | (simp [World.setCell]; done) | (simp [World.setCell]; omega)
  have hzz10 : w.heap.size ≤ w10.heap.size := by omega
  replace HB : Hid (Below w.heap.size w w10) := by rw [Hid, hw]; exact (by ((repeat (first | ((with_reducible refine Below.alloc ?_ ?_ _); rotate_left 1; (focus (first | omega | (simp; done) | (simp; omega)))) | (with_reducible refine Below.drew ?_) | ((with_reducible refine Below.setCell ?_ ?_ _); rotate_left 1; (focus (first | omega | (simp; done) | (simp; omega)))))); exact HB.out))
  replace HOK : Hid (BrkK w10 (w1.heap.size) (w2.heap.size) (⟨E, R, H, A1, A2, ce, cr, ch, c1, c2⟩) (⟨width, es, rs, hs⟩)) := by rw [Hid, hw]; (repeat (first | (with_reducible refine BrkK.alloc ?_ _) | (with_reducible refine BrkK.drew ?_) | ((with_reducible refine BrkK.setCell ?_ ?_ _); rotate_left 1; (focus (first | omega | (simp; done) | (simp; omega)))))); exact HOK.out
  replace HON : Hid (Rd w10 (w5.heap.size) (w6.heap.size) (A9) (ents (es ++ [y]))) := by rw [Hid, hw]; (repeat (first | (with_reducible refine Rd.alloc ?_ _) | (with_reducible refine Rd.drew ?_) | ((with_reducible refine Rd.setCell ?_ ?_ _); rotate_left 1; (focus (first | omega | (simp; done) | (simp; omega)))))); exact HON.out
  replace HXb : Hid (NewBox w10 (w2.heap.size) [.int .i64 width, .slice E ne ce, .slice R nr cr, .slice H nh ch, .int .i64 h.size, .slice A1 m1 c1, .int .i64 h.taken, .slice A2 m2 c2, .int .i64 h.num, .int .i64 h.size, .string h.root, .int .i64 h.taken, .string h.troot]) := by rw [Hid, hw]; (repeat (first | (with_reducible refine NewBox.alloc ?_ _) | (with_reducible refine NewBox.drew ?_) | ((with_reducible refine NewBox.setCell ?_ ?_ _); rotate_left 1; (focus (first | omega | (simp; done) | (simp; omega)))))); exact HXb.out
  clear hxb hfb hkb
  have hxb := HXb.out.2.1
  have hfb := HXb.out.2.2
  have hkb := HXb.out.1
  replace HXe : Hid (NewBox w10 (w4.heap.size) [.string x.topic, .int .i64 y.index, .int .i64 x.time, .string x.key, .string x.body]) := by rw [Hid, hw]; apply NewBox.cast; (focus ((repeat (first | (with_reducible apply NewBox.alloc) | (with_reducible apply NewBox.drew) | (with_reducible apply NewBox.set1) | ((with_reducible apply NewBox.far); (focus (first | omega | (simp; done) | (simp; omega)))))); exact HXe.out)); rfl
  clear hxe hfe hke
  have hxe := HXe.out.2.1
  have hfe := HXe.out.2.2
  have hke := HXe.out.1
  replace HXr : Hid (NewBox w10 (w4.heap.size + 1) [.string r.reader, .string r.topic, .int .i64 r.index]) := by rw [Hid, hw]; (repeat (first | (with_reducible refine NewBox.alloc ?_ _) | (with_reducible refine NewBox.drew ?_) | ((with_reducible refine NewBox.setCell ?_ ?_ _); rotate_left 1; (focus (first | omega | (simp; done) | (simp; omega)))))); exact HXr.out
  clear hxr hfr hkr
  have hxr := HXr.out.2.1
  have hfr := HXr.out.2.2
  have hkr := HXr.out.1
  replace HXl : Hid (NewBox w10 (w6.heap.size) [.slice A9 (ne + 1) c9]) := by rw [Hid, hw]; (repeat (first | (with_reducible refine NewBox.alloc ?_ _) | (with_reducible refine NewBox.drew ?_) | ((with_reducible refine NewBox.setCell ?_ ?_ _); rotate_left 1; (focus (first | omega | (simp; done) | (simp; omega)))))); exact HXl.out
  clear hxl hfl hkl
  have hxl := HXl.out.2.1
  have hfl := HXl.out.2.2
  have hkl := HXl.out.1
  replace HXz : Hid (NewBox w10 (wA.heap.size) [.string y.topic, .int .i64 y.index, .int .i64 y.time, .string y.key, .string y.body]) := by rw [Hid, hw]; (repeat (first | (with_reducible refine NewBox.alloc ?_ _) | (with_reducible refine NewBox.drew ?_) | ((with_reducible refine NewBox.setCell ?_ ?_ _); rotate_left 1; (focus (first | omega | (simp; done) | (simp; omega)))))); exact HXz.out
  clear hxz hfz hkz
  have hxz := HXz.out.2.1
  have hfz := HXz.out.2.2
  have hkz := HXz.out.1
  clear hw
  have heq := HEQ.out
  have hwr := HWR.out
  have hj1 : ((ne : Int) == (ne : Int)) = true := by simp
  have hj2 : (y.index + 1 == y.index + 1) = true := by simp
  have HLF2 := Lib.hid (fun v : Later w10 => HLF.out v.v A9 c9 (HON.out.below v.h).base)
  have HLT2 := Lib.hid (fun v : Later w10 => HLT.out v.v A9 c9 (HON.out.below v.h).base)
  have HNN2 := Lib.hid (fun v : Later w10 => HNN.out v.v A9 c9 (HON.out.below v.h).base)
  have t0 : ∀ v : Later w10, v.v.cell? ⟨(w6.heap.size), 0, none⟩ = some (.slice A9 (ne + 1) c9) := fun v => (later_cell v _ _ hkl).trans (hxl 0)
  have u0 : ∀ v : Later w10, v.v.cell? ⟨(w4.heap.size), 0, none⟩ = some (.string x.topic) := fun v => (later_cell v _ _ hke).trans (hxe 0)
  have u1 : ∀ v : Later w10, v.v.cell? ⟨(w4.heap.size), 1, none⟩ = some (.int .i64 y.index) := fun v => (later_cell v _ _ hke).trans (hxe 1)
  have u2 : ∀ v : Later w10, v.v.cell? ⟨(w4.heap.size), 2, none⟩ = some (.int .i64 x.time) := fun v => (later_cell v _ _ hke).trans (hxe 2)
  have u3 : ∀ v : Later w10, v.v.cell? ⟨(w4.heap.size), 3, none⟩ = some (.string x.key) := fun v => (later_cell v _ _ hke).trans (hxe 3)
  have u4 : ∀ v : Later w10, v.v.cell? ⟨(w4.heap.size), 4, none⟩ = some (.string x.body) := fun v => (later_cell v _ _ hke).trans (hxe 4)
  have v0 : ∀ v : Later w10, v.v.cell? ⟨(wA.heap.size), 0, none⟩ = some (.string y.topic) := fun v => (later_cell v _ _ hkz).trans (hxz 0)
  have v1 : ∀ v : Later w10, v.v.cell? ⟨(wA.heap.size), 1, none⟩ = some (.int .i64 y.index) := fun v => (later_cell v _ _ hkz).trans (hxz 1)
  have v2 : ∀ v : Later w10, v.v.cell? ⟨(wA.heap.size), 2, none⟩ = some (.int .i64 y.time) := fun v => (later_cell v _ _ hkz).trans (hxz 2)
  have v3 : ∀ v : Later w10, v.v.cell? ⟨(wA.heap.size), 3, none⟩ = some (.string y.key) := fun v => (later_cell v _ _ hkz).trans (hxz 3)
  have v4 : ∀ v : Later w10, v.v.cell? ⟨(wA.heap.size), 4, none⟩ = some (.string y.body) := fun v => (later_cell v _ _ hkz).trans (hxz 4)
  refine wp_region_later (by kernel_rfl) (by kernel_rfl) ?_
  repeat (go_big_quiet_step ((first | with_reducible exact later_call (HLF2.out _) | with_reducible exact later_call (HLT2.out _) | with_reducible exact later_call (HNN2.out _))))
  refine wpQuiet_nil ?_
  intro wC h9
  have hb9 := later_below h9
  have hzwC : w10.heap.size ≤ wC.heap.size := hb9.size
  have hzzwC : w.heap.size ≤ wC.heap.size := by omega
  replace HB := Lib.hid (below_then HB.out hb9 HB.out.size)
  replace HOK := Lib.hid (HOK.out.below hb9)
  replace HON := Lib.hid (HON.out.below hb9)
  replace HXb := Lib.hid (HXb.out.below hb9)
  clear hxb hfb hkb
  have hxb := HXb.out.2.1
  have hfb := HXb.out.2.2
  have hkb := HXb.out.1
  replace HXe := Lib.hid (HXe.out.below hb9)
  clear hxe hfe hke
  have hxe := HXe.out.2.1
  have hfe := HXe.out.2.2
  have hke := HXe.out.1
  replace HXr := Lib.hid (HXr.out.below hb9)
  clear hxr hfr hkr
  have hxr := HXr.out.2.1
  have hfr := HXr.out.2.2
  have hkr := HXr.out.1
  replace HXl := Lib.hid (HXl.out.below hb9)
  clear hxl hfl hkl
  have hxl := HXl.out.2.1
  have hfl := HXl.out.2.2
  have hkl := HXl.out.1
  replace HXz := Lib.hid (HXz.out.below hb9)
  clear hxz hfz hkz
  have hxz := HXz.out.2.1
  have hfz := HXz.out.2.2
  have hkz := HXz.out.1
  clear h9 hb9 heq hwr hj1 hj2 HLF2 HLT2 HNN2 t0 u0 u1 u2 u3 u4 v0 v1 v2 v3 v4
  go_wp2
  go_ret
  exact ⟨rfl, HB.out⟩
end Go.Proofs.Ytoccjgcokffkbaa
