/- DrawAppends: a drawn disk, and writes that each put something behind a file. -/
import Derived.Test.YtoccjgcokffkbaaAppsB
import Derived.Test.YtoccjgcokffkbaaDrawP
import Derived.Deep.RegionLaw
import Derived.Deep.RegionHeld3
import Derived.Deep.CutRange
import Derived.Test.YtoccjgcokffkbaaWk2
namespace Go.Proofs.Ytoccjgcokffkbaa
set_option linter.unusedVariables false
set_option linter.unusedSimpArgs false
open Go.RowKit

theorem row_boxD {w : World} {b n : Nat} {xs : List Value} {base : Nat} {e : TypeId} (h : w.ownsRow base e 1 (.slice (some ⟨b, 0, none⟩) n n) n xs) : NewBox w b xs ∧ base ≤ b := by
 rcases h.2 with ⟨e1, _⟩ | ⟨g, cap, cur, e1, h2, h3, h4, h5, h6, h7⟩
 ·cases e1
 ·cases e1
  rw [Nat.mul_one] at h6 h7
  rw [List.take_of_length_le (by rw [Array.length_toList, h6]; exact Nat.le_refl _)] at h7
  refine ⟨⟨(Array.getElem?_eq_some_iff.1 h3).1, fun o => ?_, fun o => ?_⟩, h2⟩
  ·rw [← h7]; simp [World.cell?, h3]
  ·simp [World.frozen?, h3]
theorem strs_set (l : List ByteArray) (k : Nat) (s : ByteArray) : (strs l).set k (.string s) = strs (l.set k s) := by rw [strs, strs, List.map_set]
set_option maxRecDepth 100000 in
set_option maxHeartbeats 400000 in
theorem diskNewD_c (w : World) : Calls Try.prog 32 #[] w fun e w' => ∃ b, e = .returned (.agg #[.slice (some ⟨b, 0, none⟩) 3 3]) ∧ (w.heap.size ≤ b ∧ NewBox w' b (strs noFiles)) ∧ Below w.heap.size w w' := by
 obtain ⟨i0, hi0, hz0, hz1, hz2⟩ := info_parts info_string
 go_enter Try.func32, Try.ntmps32
 go_wp2_with (at_make; refine wpList_make_full _ rfl _ _ 24 rfl w.heap.size 9 i0 _ 1 Try.underlying24 hi0 hz0 hz1 _ _ _ _ 3 rfl rfl rfl rfl (by rw [hz2]; omega) (by unfold maxLen; omega) (by simp) ?_)
 intro w1 hown hg
 simp only [Nat.mul_one, Value.cells, toList_madeCells_one] at hown
 have hb1 := ((Below.refl w.heap.size w).alloc (Nat.le_refl _) _).grown hg (by first | omega | (simp; done) | (simp; omega)) (by first | omega | (simp; done) | (simp; omega))
 have hx := (((Below.refl (w.heap.size + 1) (w.alloc (.cells #[.slice none 0 0] 26)))).grown hg (by simp) (by simp)).cell (p := ⟨w.heap.size, 0, none⟩) (by simp)
 replace hx : w1.cell? ⟨w.heap.size, 0, none⟩ = some (.slice none 0 0) := hx.trans (by go_simp)
 have hf := (((Below.refl (w.heap.size + 1) (w.alloc (.cells #[.slice none 0 0] 26)))).grown hg (by simp) (by simp)).frozen (p := ⟨w.heap.size, 0, none⟩) (by simp)
 replace hf : w1.frozen? ⟨w.heap.size, 0, none⟩ = false := hf.trans (by go_simp)
 have HG := Lib.hid hg
 have HBB := Lib.hid hb1
 have HBX := Lib.hid (row_boxD hown).1
 have hs1 := hb1.size
 clear hg hown hb1 hi0 hz0 hz1 hz2
 go_wp2
 refine bodyPost_ret (v := .agg #[.slice (some ⟨w.heap.size + 1, 0, none⟩) 3 3]) (by simp [results, Try.results32, go_sem, World.cell?_setCell_same _ _ _ hx]) rfl ?_
 exact ⟨w.heap.size + 1, rfl, ⟨Nat.le_succ _, HBX.out.setCell (by simp) _⟩, HBB.out.setCell (by simp) _⟩

/-- what stands in the way of nothing but itself: the cursor and the drawn bytes, as a kind of the walk -/
def CodeK (w : World) (lo hi : Nat) (a : Option Addr × Nat × Nat) (l : List Int) : Prop := lo = 0 ∧ ∃ p, hi = p + 1 ∧ Code w p a.1 a.2.1 a.2.2 0 p l
theorem CodeK.mk_ {w : World} {p n g : Nat} {B : Option Addr} {l : List Int} (h : Code w p B n g 0 p l) : CodeK w 0 (p + 1) (B, n, g) l := ⟨rfl, p, rfl, h⟩
theorem CodeK.get {w : World} {p n g : Nat} {B : Option Addr} {l : List Int} (h : CodeK w 0 (p + 1) (B, n, g) l) : Code w p B n g 0 p l := by
 obtain ⟨_, q, h1, h2⟩ := h
 obtain rfl : p = q := by omega
 exact h2
section
variable {w w' : World} {lo hi lo' hi' : Nat} {a : Option Addr × Nat × Nat} {l : List Int}
theorem CodeK.below (h : CodeK w lo hi a l) (hb : Below w.heap.size w w') : CodeK w' lo hi a l := by
 obtain ⟨h1, p, h2, h3⟩ := h; exact ⟨h1, p, h2, h3.below hb⟩
theorem CodeK.only (h : CodeK w lo hi a l) (ho : Only lo' hi' w w') (hd : hi ≤ lo' ∨ hi' ≤ lo) : CodeK w' lo hi a l := by
 obtain ⟨h1, p, h2, h3⟩ := h
 refine ⟨h1, p, h2, ?_⟩
 obtain ⟨i, k, hx, hi2⟩ := h3.cur
 exact ⟨⟨i, k, hx.only ho (by omega), hi2⟩, h3.rd.only ho (by omega), h3.len, h3.small, h3.byte, h3.far⟩
theorem CodeK.alloc (h : CodeK w lo hi a l) (o : Obj) : CodeK (w.alloc o) lo hi a l := h.below ((Below.refl _ _).alloc (Nat.le_refl _) o)
theorem CodeK.drew (h : CodeK w lo hi a l) : CodeK w.drew lo hi a l := h.below ((Below.refl _ _).drew)
theorem CodeK.setCell (h : CodeK w lo hi a l) {p : Addr} (hp : p.block < lo ∨ hi ≤ p.block) (u : Value) : CodeK (w.setCell p u) lo hi a l := by
 have ho : Only p.block (p.block + 1) w (w.setCell p u) := (Only.refl _ _ _).setCell (Nat.le_refl _) (Nat.lt_succ_self _) u
 exact h.only ho (by have := h.1; omega)
/-- a block, as a kind of the walk -/
def BoxK (w : World) (lo hi : Nat) (_ : Unit) (xs : List Value) : Prop := NewBox w lo xs ∧ hi = lo + 1
theorem BoxK.below {u : Unit} {xs : List Value} (h : BoxK w lo hi u xs) (hb : Below w.heap.size w w') : BoxK w' lo hi u xs := ⟨h.1.below hb, h.2⟩
theorem BoxK.only {u : Unit} {xs : List Value} (h : BoxK w lo hi u xs) (ho : Only lo' hi' w w') (hd : hi ≤ lo' ∨ hi' ≤ lo) : BoxK w' lo hi u xs := ⟨h.1.only ho (by have := h.2; omega), h.2⟩
theorem BoxK.alloc {u : Unit} {xs : List Value} (h : BoxK w lo hi u xs) (o : Obj) : BoxK (w.alloc o) lo hi u xs := ⟨h.1.alloc o, h.2⟩
theorem BoxK.drew {u : Unit} {xs : List Value} (h : BoxK w lo hi u xs) : BoxK w.drew lo hi u xs := ⟨h.1.drew, h.2⟩
theorem BoxK.setCell {u : Unit} {xs : List Value} (h : BoxK w lo hi u xs) {p : Addr} (hp : p.block < lo ∨ hi ≤ p.block) (v : Value) : BoxK (w.setCell p v) lo hi u xs := ⟨h.1.setCell (by have := h.2; omega) v, h.2⟩
theorem celoD {k o : Nat} {v : Value} (h : Only lo hi w w') (hc : w.cell? ⟨k, o, none⟩ = some v) (hk : k < lo ∨ hi ≤ k) : w'.cell? ⟨k, o, none⟩ = some v := by
 have hb := h.block k (World.block_lt_of_cell? w ⟨k, o, none⟩ hc) hk
 simpa [World.cell?, hb] using hc
def CellK (w : World) (b o : Nat) (v : Value) : Prop := w.cell? ⟨b, o, none⟩ = some v
theorem CellK.alloc {b o : Nat} {v : Value} (h : CellK w b o v) (x : Obj) : CellK (w.alloc x) b o v := celoD (Only.of_below (lo := w.heap.size) (hi := w.heap.size) ((Below.refl _ _).alloc (Nat.le_refl _) x)) h (by have := World.block_lt_of_cell? w ⟨b, o, none⟩ h; simp only at this; omega)
theorem CellK.drew {b o : Nat} {v : Value} (h : CellK w b o v) : CellK w.drew b o v := h
theorem CellK.setCell {b o : Nat} {v : Value} (h : CellK w b o v) {p : Addr} (hp : p.block ≠ b) (u : Value) : CellK (w.setCell p u) b o v := celoD ((Only.refl p.block (p.block + 1) w).setCell (Nat.le_refl _) (Nat.lt_succ_self _) u) h (by omega)
theorem Only.drew1 (h : Only lo hi w.drew w') : Only lo hi w w' := ⟨h.os, h.tape, h.output, h.size, h.block⟩
/-- a row of writes of the call's own between two blocks -/
def RowW (w : World) (lo hi : Nat) (a : Value × Nat) (xs : List Value) : Prop := w.ownsRow lo 33 3 a.1 a.2 xs ∧ ∀ k, a.1.ownBlock = some k → k < hi
theorem RowW.keep {a : Value × Nat} {xs : List Value} (h : RowW w lo hi a xs) (hb : ∀ k, k < w.heap.size → lo ≤ k → k < hi → w'.heap[k]? = w.heap[k]?) : RowW w' lo hi a xs := by
 refine ⟨⟨h.1.1, ?_⟩, h.2⟩
 rcases h.1.2 with h1 | ⟨g, cap, cur, h1, h2, h3, h4⟩
 ·exact .inl h1
 ·exact .inr ⟨g, cap, cur, h1, h2, (hb g (Array.getElem?_eq_some_iff.1 h3).1 h2 (h.2 g (by rw [h1]; rfl))).trans h3, h4⟩
theorem RowW.below {a : Value × Nat} {xs : List Value} (h : RowW w lo hi a xs) (hb : Below w.heap.size w w') : RowW w' lo hi a xs := h.keep (fun k hk _ _ => hb.block k hk)
theorem RowW.alloc {a : Value × Nat} {xs : List Value} (h : RowW w lo hi a xs) (o : Obj) : RowW (w.alloc o) lo hi a xs := h.below ((Below.refl _ _).alloc (Nat.le_refl _) o)
theorem RowW.drew {a : Value × Nat} {xs : List Value} (h : RowW w lo hi a xs) : RowW w.drew lo hi a xs := h
theorem RowW.setCell {a : Value × Nat} {xs : List Value} (h : RowW w lo hi a xs) {p : Addr} (hp : p.block < lo ∨ hi ≤ p.block) (u : Value) : RowW (w.setCell p u) lo hi a xs := h.keep (fun k _ h1 h2 => Below.heap_setCell _ _ _ _ (by omega))
theorem RowW.only {a : Value × Nat} {xs : List Value} (h : RowW w lo hi a xs) (ho : Only lo' hi' w w') (hd : hi ≤ lo' ∨ hi' ≤ lo) : RowW w' lo hi a xs := h.keep (fun k hk h1 h2 => ho.block k hk (by omega))
end
set_option maxRecDepth 100000 in
/-- one write behind such a row, and where the row lies then -/
theorem app1WriL {w : World} {ops : Array Oper} {rest : List Oper} {o : Oper} {a : Act} {Q : Exit → Act → World → Prop} (hgd : o.guard = none) (s x : Operand)
  (ho : o.op = .call { callee := .builtin .append, args := #[s, x], argTypes := #[27, 27] }) (lo hi k : Nat) (v : Value) (n : Nat) (xs : List Value) (x0 : Wri) (hs : a.eval s = v) (h0 : RowW w lo hi (v, n) xs)
  (hx : a.eval x = .slice (some ⟨k, 0, none⟩) 1 1) (hr : NewBox w k (wris [x0])) (h63 : n + 1 ≤ 1000000) (hbase : lo ≤ w.heap.size) (H : Nat) (hH : w.heap.size = H)
  (h : ∀ g cap w', lo ≤ g → (g < hi ∨ g = H) → g < w'.heap.size → n + 1 ≤ cap → RowW w' g (g + 1) (.slice (some ⟨g, 0, none⟩) (n + 1) cap, n + 1) (xs ++ wris [x0]) → Only lo hi w w' → wpList Try.prog ops Q rest (a.put o.dst (.slice (some ⟨g, 0, none⟩) (n + 1) cap)) w') : wpList Try.prog ops Q (o :: rest) a w := by
 obtain ⟨i0, hi0, hz0, hz1, hz2⟩ := info_parts info_Write
 refine wpList_append_lies _ hgd s x _ ho lo _ i0 (.agg #[.int .i64 0, .int .i64 0, .string ByteArray.empty]) 3 32 Try.underlying27 hi0 hz0 hz1 hz2 rfl (by decide) v n xs hs h0.1 ⟨k, 0, none⟩ 1 1 (wris [x0]) hx (by rw [wris_len]; rfl) (fun j u hu => by rw [Addr.add_lit, Nat.zero_add]; exact (hr.2.1 j).trans hu) (one_wris _) (by omega) (by unfold maxLen; omega) (by omega) hbase H hH ?_
 intro g cap w' h1 h2 h3 h4
 have hlo : lo ≤ g := (h1.lt g rfl).1
 have hcap : n + 1 ≤ cap := by
  rcases h1.2 with ⟨e, _⟩ | ⟨g', cap', cur, e, h5, h6, h7, _⟩
  ·cases e
  ·cases e; exact h7
 refine h g cap w' hlo (h3.elim (fun e => .inl (h0.2 g e)) .inr) h4 hcap ⟨?_, fun k hk => by have hk' : g = k := (by injection hk); show k < g + 1; omega⟩ ⟨h2.os, h2.tape, h2.output, h2.size, fun k hk hd => h2.block k hk (fun e => ?_)⟩
 ·refine ⟨h1.1, ?_⟩
  rcases h1.2 with ⟨e, _⟩ | ⟨g', cap', cur, e, h5, h6⟩
  ·cases e
  ·cases e; exact .inr ⟨g, cap, cur, rfl, Nat.le_refl _, h6⟩
 ·have e1 := (h0.1.lt k e.symm).1
  have e2 := h0.2 k e.symm
  omega
theorem RowW.rdW {w : World} {lo hi n c : Nat} {A : Option Addr} {xs : List Value} (h : RowW w lo hi (.slice A n c, n) xs) (hl : lo ≤ w.heap.size) : Rd w lo w.heap.size A xs := by
 have := Own.of_ownsRow h.1
 exact this.rd
theorem sm_set {l : List ByteArray} {N k : Nat} {t : ByteArray} (h : Sm l N) (ht : t.size ≤ N) : Sm (l.set k t) N := ⟨by rw [List.length_set]; exact h.1, fun s hs => (List.mem_or_eq_of_mem_set hs).elim (h.2 s) (fun e => by rw [e]; exact ht)⟩
theorem only_new {w w' : World} {lo hi : Nat} {p : Addr} (h : Only lo hi w w') (hk : w.heap.size ≤ p.block) (u : Value) : Only lo hi w (w'.setCell p u) :=
 ⟨h.os, h.tape, h.output, by simpa [World.setCell] using h.size, fun k hk2 hd => (Below.heap_setCell _ _ _ _ (by omega)).trans (h.block k hk2 hd)⟩
theorem only_alloc {w w' : World} {lo hi : Nat} (h : Only lo hi w w') (o : Obj) : Only lo hi w (w'.alloc o) := h.trans ((Only.of_below ((Below.refl _ _).alloc (Nat.le_refl _) o)))
theorem only_drew {w w' : World} {lo hi : Nat} (h : Only lo hi w w') : Only lo hi w w'.drew := ⟨h.os, h.tape, h.output, h.size, h.block⟩
theorem box_ownD {w : World} {b : Nat} {xs : List Value} (h : NewBox w b xs) : Own w b (b + 1) (some ⟨b, 0, none⟩) xs := fun _ =>
 ⟨b, 0, rfl, Nat.le_refl _, Nat.lt_succ_self _, h.1, fun j u hj => by rw [Nat.zero_add]; exact (h.2.1 j).trans hj, fun j => h.2.2 _⟩
set_option maxRecDepth 100000 in
set_option maxHeartbeats 4000000 in
theorem DrawAppends_c (n g lo hi : Nat) (B : Option Addr) (l0 : List Int) (w : World) (hr : Rd w lo hi B (bys l0)) (hl : l0.length = n) (hn : n ≤ 1048576) (hb : ∀ x ∈ l0, 0 ≤ x ∧ x ≤ 255) :
  Calls Try.prog 8 #[.slice B n g] w fun e w' => ∃ (d : List ByteArray) (ws : List Wri) (A : Option Addr) (c : Nat) (X : Option Addr) (cx m : Nat), e = .returned (.tuple #[.agg #[.slice A 3 c], .slice X m cx]) ∧
   (Sm d 8 ∧ Apps d ws ∧ ws.length = m ∧ m ≤ 6 ∧ m ≤ cx ∧ (X = none → cx = 0) ∧ (∀ x ∈ ws, x.fits) ∧ Rd w' 0 w'.heap.size A (strs d) ∧ Rd w' 0 w'.heap.size X (wris ws)) ∧ Below w.heap.size w w' := by
 have HNEW := Lib.hid (fun W (r : Rd W 0 W.heap.size B (bys l0)) => l01New_c n g 0 W.heap.size B l0 W r hl hn hb)
 have HB : Hid (Below w.heap.size w w) := Below.refl _ _
 have HOQ : Hid (Rd w (0) (w.heap.size) (B) (bys l0)) := Rd.base hr
 clear hr hl hb
 go_enter Try.func8, Try.ntmps8
 go_wp2_with fail
 refine calls_named (fun w1 hw => ?_)
 have hz1 : w.heap.size + 1 ≤ w1.heap.size := by rw [hw]; first | omega | (simp [World.setCell]; done) | (simp [World.setCell]; omega)
 have hzz1 : w.heap.size ≤ w1.heap.size := by omega
 have hbn : Below w.heap.size w w1 := by rw [hw]; exact (by ((repeat (first | ((with_reducible refine Below.alloc ?_ ?_ _); rotate_left 1; (focus (first | omega | (simp; done) | (simp; omega)))) | (with_reducible refine Below.drew ?_) | ((with_reducible refine Below.setCell ?_ ?_ _); rotate_left 1; (focus (first | omega | (simp; done) | (simp; omega)))))); exact Below.refl _ _))
 replace HB := Lib.hid (below_then HB.out hbn HB.out.size)
 replace HOQ := Lib.hid (HOQ.out.below hbn)
 clear hbn
 have HXr : Hid (NewBox w1 (w.heap.size) [.slice none 0 0]) := by rw [Hid, hw]; exact ⟨by first | omega | (simp [World.setCell]; done) | (simp [World.setCell]; omega), fun o => by rcases o with _ | o <;> go_simp, fun o => by go_simp⟩
 have hxr := HXr.out.2.1
 have hfr := HXr.out.2.2
 have hkr := HXr.out.1
 clear hw
 refine (HNEW.out _ HOQ.out.base).mono ?_
 rintro e w2 ⟨rfl, hcd, hpz, hb⟩
 have hzw2 : w1.heap.size ≤ w2.heap.size := hb.size
 have hzzw2 : w.heap.size ≤ w2.heap.size := by omega
 replace HB := Lib.hid (below_then HB.out hb HB.out.size)
 replace HOQ := Lib.hid (HOQ.out.below hb)
 replace HXr := Lib.hid (HXr.out.below hb)
 clear hxr hfr hkr
 have hxr := HXr.out.2.1
 have hfr := HXr.out.2.2
 have hkr := HXr.out.1
 clear hb
 have HOC : Hid (CodeK w2 (0) (w1.heap.size + 1) ((B, n, g)) (l0)) := Lib.hid (CodeK.mk_ hcd)
 clear hcd HNEW
 clear HOQ
 go_wp2_with fail
 refine calls_named (fun w3 hw => ?_)
 have hz3 : w2.heap.size + 0 ≤ w3.heap.size := by rw [hw]; first | omega | (simp [World.setCell]; done) | (simp [World.setCell]; omega)
 have hzz3 : w.heap.size ≤ w3.heap.size := by omega
 have hbn : Below w2.heap.size w2 w3 := by rw [hw]; exact (by ((repeat (first | ((with_reducible refine Below.alloc ?_ ?_ _); rotate_left 1; (focus (first | omega | (simp; done) | (simp; omega)))) | (with_reducible refine Below.drew ?_) | ((with_reducible refine Below.setCell ?_ ?_ _); rotate_left 1; (focus (first | omega | (simp; done) | (simp; omega)))))); exact Below.refl _ _))
 replace HB := Lib.hid (below_then HB.out hbn HB.out.size)
 replace HOC := Lib.hid (HOC.out.below hbn)
 replace HXr := Lib.hid (HXr.out.below hbn)
 clear hxr hfr hkr
 have hxr := HXr.out.2.1
 have hfr := HXr.out.2.2
 have hkr := HXr.out.1
 clear hbn
 clear hw
 refine (diskNewD_c _).mono ?_
 rintro e w4 ⟨bo, rfl, ⟨hbo1, hbo2⟩, hb⟩
 have hzw4 : w3.heap.size ≤ w4.heap.size := hb.size
 have hzzw4 : w.heap.size ≤ w4.heap.size := by omega
 replace HB := Lib.hid (below_then HB.out hb HB.out.size)
 replace HOC := Lib.hid (HOC.out.below hb)
 replace HXr := Lib.hid (HXr.out.below hb)
 clear hxr hfr hkr
 have hxr := HXr.out.2.1
 have hfr := HXr.out.2.2
 have hkr := HXr.out.1
 clear hb
 have HOF : Hid (BoxK w4 (bo) (bo + 1) (()) (strs noFiles)) := Lib.hid ⟨hbo2, rfl⟩
 have hbo3 := hbo2.1
 clear hbo2
 go_wp2
 refine wp_named (fun w5 hw => ?_)
 have hz5 : w4.heap.size + 1 ≤ w5.heap.size := by rw [hw]; first | omega | (simp [World.setCell]; done) | (simp [World.setCell]; omega)
 have hzz5 : w.heap.size ≤ w5.heap.size := by omega
 have hbn : Below w4.heap.size w4 w5 := by rw [hw]; exact (by ((repeat (first | ((with_reducible refine Below.alloc ?_ ?_ _); rotate_left 1; (focus (first | omega | (simp; done) | (simp; omega)))) | (with_reducible refine Below.drew ?_) | ((with_reducible refine Below.setCell ?_ ?_ _); rotate_left 1; (focus (first | omega | (simp; done) | (simp; omega)))))); exact Below.refl _ _))
 replace HB := Lib.hid (below_then HB.out hbn HB.out.size)
 replace HOC := Lib.hid (HOC.out.below hbn)
 replace HOF := Lib.hid (HOF.out.below hbn)
 replace HXr := Lib.hid (HXr.out.below hbn)
 clear hxr hfr hkr
 have hxr := HXr.out.2.1
 have hfr := HXr.out.2.2
 have hkr := HXr.out.1
 clear hbn
 have HXd : Hid (NewBox w5 (w4.heap.size) [.slice (some ⟨bo, 0, none⟩) 3 3]) := by rw [Hid, hw]; exact ⟨by first | omega | (simp [World.setCell]; done) | (simp [World.setCell]; omega), fun o => by rcases o with _ | o <;> go_simp, fun o => by go_simp⟩
 have hxd := HXd.out.2.1
 have hfd := HXd.out.2.2
 have hkd := HXd.out.1
 clear hw
 go_loopw [6] (fun i wr => ∃ (k : Nat) (l : List ByteArray), k ≤ 3 ∧ i = .int .i64 k ∧ Sm l 8 ∧ NewBox wr ((w.heap.size)) [.slice none 0 0] ∧ NewBox wr ((w4.heap.size)) [.slice (some ⟨bo, 0, none⟩) 3 3] ∧ BoxK wr bo (bo + 1) () (strs l) ∧ CodeK wr 0 (w1.heap.size + 1) (B, n, g) l0 ∧ Below w.heap.size w wr ∧ w5.heap.size ≤ wr.heap.size) (fun i _ => 3 - (intOf i).toNat)
 case atStart => exact ⟨0, noFiles, Nat.zero_le _, rfl, ⟨rfl, fun s hs => by rw [List.eq_of_mem_replicate hs]; exact Nat.zero_le _⟩, HXr.out, HXd.out, HOF.out, HOC.out, HB.out, Nat.le_refl _⟩
 case round =>
  obtain ⟨k, l, hk, rfl, hsm, hbr, hbd, hbf, hcc, hbl, hzl⟩ := hrel
  have HBL := Lib.hid hbl
  have HSM := Lib.hid hsm
  replace HB : Hid (Below w.heap.size w wr) := HBL.out
  replace HXr : Hid (NewBox wr (w.heap.size) [.slice none 0 0]) := hbr
  clear hxr hfr hkr
  have hxr := HXr.out.2.1
  have hfr := HXr.out.2.2
  have hkr := HXr.out.1
  replace HXd : Hid (NewBox wr (w4.heap.size) [.slice (some ⟨bo, 0, none⟩) 3 3]) := hbd
  clear hxd hfd hkd
  have hxd := HXd.out.2.1
  have hfd := HXd.out.2.2
  have hkd := HXd.out.1
  replace HOF : Hid (BoxK wr (bo) (bo + 1) (()) (strs l)) := Lib.hid hbf
  replace HOC : Hid (CodeK wr (0) (w1.heap.size + 1) ((B, n, g)) (l0)) := Lib.hid hcc
  have hzz_wr : w.heap.size ≤ wr.heap.size := HB.out.size
  clear hbr hbd hbf hcc hbl hsm
  by_cases hlt : k < 3
  ·obtain ⟨sk, hsk⟩ : ∃ s, (strs l)[k]? = some (.string s) := ⟨l[k]'(by rw [HSM.out.1]; exact hlt), strs_get (List.getElem?_eq_getElem _)⟩
   have hI : (k : Int) < 3 := by omega
   have hln : k < (strs l).length := by rw [strs, List.length_map, HSM.out.1]; exact hlt
   go_wp2_with fail
   go_region_law (first | (go_simp; go_at_call 33; refine (l01Text_c w1.heap.size n g 0 w1.heap.size B l0 m5 _ HC5.out (by omega) (by omega)).mono ?_; rintro e w6_ ⟨t6, rfl, ht6, hc6, ho6⟩; have HC6 := Lib.hid hc6; have HO6 := Lib.hid (HO5.out.trans ho6); have hxd6 := (HXd.out.only HO6.out (by omega)).2.1; have HF6 := Lib.hid (HOF.out.1.only HO6.out (by omega)); have hc6k : w6_.cell? ⟨bo, k, none⟩ = some (.string sk) := HF6.out.cell hsk; have hf6k : w6_.frozen? ⟨bo, k, none⟩ = false := HF6.out.2.2 k; clear hc6 ho6 hxd5) | (go_simp; go_at_call 34; refine (l01Below_c w1.heap.size n g 0 w1.heap.size B l0 9 _ (CodeK.get HOC.out.drew) (by omega) (by omega)).mono ?_; rintro e w5_ ⟨x5, rfl, x50, x51, hc5, ho5⟩; obtain ⟨m5, rfl⟩ : ∃ m : Nat, x5 = m := ⟨x5.toNat, by omega⟩; have HC5 := Lib.hid hc5; have HO5 := Lib.hid ho5.drew1; have hxd5 := (HXd.out.only HO5.out (by omega)).2.1; have hz5 := HO5.out.size; have hal5 : m5 ≤ 8 := (by omega); clear hc5 ho5))
   all_goals
    have hzw6_ : wr.heap.size ≤ w6_.heap.size := HO6.out.size
    have hzzw6_ : w.heap.size ≤ w6_.heap.size := by omega
    replace HB := Lib.hid (below_only HB.out HO6.out (by omega) HB.out.size)
    replace HXr := Lib.hid (HXr.out.only HO6.out (by first | omega | (simp; omega)))
    clear hxr hfr hkr
    have hxr := HXr.out.2.1
    have hfr := HXr.out.2.2
    have hkr := HXr.out.1
    replace HXd := Lib.hid (HXd.out.only HO6.out (by first | omega | (simp; omega)))
    clear hxd hfd hkd
    have hxd := HXd.out.2.1
    have hfd := HXd.out.2.2
    have hkd := HXd.out.1
    clear HOC HOF
    have HOC : Hid (CodeK w6_ (0) (w1.heap.size + 1) ((B, n, g)) (l0)) := Lib.hid (CodeK.mk_ HC6.out)
    clear HC5 HC6 HO5 hxd6
    go_wp2
    go_roundw
    case rel => exact ⟨k + 1, l.set k t6, by omega, by go_num, sm_set HSM.out (by omega), (by (repeat (first | (with_reducible refine NewBox.alloc ?_ _) | (with_reducible refine NewBox.drew ?_) | ((with_reducible refine NewBox.setCell ?_ ?_ _); rotate_left 1; (focus (first | omega | (simp; done) | (simp; omega)))))); exact HXr.out), (by (repeat (first | (with_reducible refine NewBox.alloc ?_ _) | (with_reducible refine NewBox.drew ?_) | ((with_reducible refine NewBox.setCell ?_ ?_ _); rotate_left 1; (focus (first | omega | (simp; done) | (simp; omega)))))); exact HXd.out), ⟨by rw [← strs_set]; exact HF6.out.setD hln _, rfl⟩, (by (repeat (first | (with_reducible refine CodeK.alloc ?_ _) | (with_reducible refine CodeK.drew ?_) | ((with_reducible refine CodeK.setCell ?_ ?_ _); rotate_left 1; (focus (first | omega | (simp; done) | (simp; omega)))))); exact HOC.out), (by ((repeat (first | ((with_reducible refine Below.alloc ?_ ?_ _); rotate_left 1; (focus (first | omega | (simp; done) | (simp; omega)))) | (with_reducible refine Below.drew ?_) | ((with_reducible refine Below.setCell ?_ ?_ _); rotate_left 1; (focus (first | omega | (simp; done) | (simp; omega)))))); exact HB.out)), (by first | omega | (simp [World.setCell]; done) | (simp [World.setCell]; omega))⟩
    case measure => simp [intOf]; omega
  ·skip
   obtain rfl : 3 = k := by omega
   obtain ⟨wq, hwq⟩ : ∃ x : World, x = wr := ⟨_, rfl⟩
   subst hwq
   replace HB : Hid (Below w.heap.size w wq) := HB.out
   replace HXr : Hid (NewBox wq (w.heap.size) [.slice none 0 0]) := HXr.out
   clear hxr hfr hkr
   have hxr := HXr.out.2.1
   have hfr := HXr.out.2.2
   have hkr := HXr.out.1
   replace HXd : Hid (NewBox wq (w4.heap.size) [.slice (some ⟨bo, 0, none⟩) 3 3]) := HXd.out
   clear hxd hfd hkd
   have hxd := HXd.out.2.1
   have hfd := HXd.out.2.2
   have hkd := HXd.out.1
   replace HOF : Hid (BoxK wq (bo) (bo + 1) (()) (strs l)) := HOF
   replace HOC : Hid (CodeK wq (0) (w1.heap.size + 1) ((B, n, g)) (l0)) := HOC
   have hzz_wq : w.heap.size ≤ wq.heap.size := HB.out.size
   have hbw := HOF.out.1.1
   have hdw := HXd.out.1
   go_wp2
   refine wp_named (fun w6 hw => ?_)
   have hz6 : wq.heap.size + 2 ≤ w6.heap.size := by rw [hw]; first | omega | (simp [World.setCell]; done) | (simp [World.setCell]; omega)
   have hzz6 : w.heap.size ≤ w6.heap.size := by omega
   have hbn : Below wq.heap.size wq w6 := by rw [hw]; exact (by ((repeat (first | ((with_reducible refine Below.alloc ?_ ?_ _); rotate_left 1; (focus (first | omega | (simp; done) | (simp; omega)))) | (with_reducible refine Below.drew ?_) | ((with_reducible refine Below.setCell ?_ ?_ _); rotate_left 1; (focus (first | omega | (simp; done) | (simp; omega)))))); exact Below.refl _ _))
   replace HB := Lib.hid (below_then HB.out hbn HB.out.size)
   replace HOC := Lib.hid (HOC.out.below hbn)
   replace HOF := Lib.hid (HOF.out.below hbn)
   replace HXr := Lib.hid (HXr.out.below hbn)
   clear hxr hfr hkr
   have hxr := HXr.out.2.1
   have hfr := HXr.out.2.2
   have hkr := HXr.out.1
   replace HXd := Lib.hid (HXd.out.below hbn)
   clear hxd hfd hkd
   have hxd := HXd.out.2.1
   have hfd := HXd.out.2.2
   have hkd := HXd.out.1
   clear hbn
   have HXe1 : Hid (NewBox w6 (wq.heap.size) []) := by rw [Hid, hw]; exact ⟨by first | omega | (simp [World.setCell]; done) | (simp [World.setCell]; omega), fun o => by rcases o with o <;> go_simp, fun o => by go_simp⟩
   have hxe1 := HXe1.out.2.1
   have hfe1 := HXe1.out.2.2
   have hke1 := HXe1.out.1
   have HXnow : Hid (NewBox w6 (wq.heap.size + 1) [.slice (some ⟨bo, 0, none⟩) 3 3]) := by rw [Hid, hw]; exact ⟨by first | omega | (simp [World.setCell]; done) | (simp [World.setCell]; omega), fun o => by rcases o with _ | o <;> go_simp, fun o => by go_simp⟩
   have hxnow := HXnow.out.2.1
   have hfnow := HXnow.out.2.2
   have hknow := HXnow.out.1
   have HROW : Hid (RowW w6 wq.heap.size (wq.heap.size + 1) (.slice (some ⟨wq.heap.size, 0, none⟩) 0 0, 0) (wris [])) := by
    rw [Hid, hw]
    exact RowW.alloc ⟨World.ownsRow_made wq #[] 0 (Nat.le_refl _) (Nat.zero_le _) (by simp), fun k hk => by have hk' : wq.heap.size = k := (by injection hk); show k < _; omega⟩ _
   clear hw
   go_loopw [7, 9] (fun v i wr2 => ∃ (k : Nat) (ws : List Wri) (X : Option Addr) (cx lo hi : Nat) (An : Option Addr) (cn qa qb : Nat), k ≤ 6 ∧ i = .int .i64 k ∧ v = .slice X k cx ∧ (ws.length = k ∧ Apps l ws ∧ (∀ x ∈ ws, x.fits) ∧ k ≤ cx ∧ (X = none → cx = 0)) ∧ ((w4.heap.size) < lo ∧ lo ≤ hi ∧ hi ≤ wr2.heap.size ∧ (hi ≤ wq.heap.size + 1 ∨ wq.heap.size + 1 < lo)) ∧ (bo ≤ qa ∧ qa ≤ qb ∧ (hi ≤ qa ∨ qb ≤ lo) ∧ (qb ≤ wq.heap.size + 1 ∨ wq.heap.size + 1 < qa)) ∧
    NewBox wr2 ((w.heap.size)) [.slice none 0 0] ∧ NewBox wr2 ((w4.heap.size)) [.slice (some ⟨bo, 0, none⟩) 3 3] ∧ NewBox wr2 ((wq.heap.size + 1)) [.slice An 3 cn] ∧ BoxK wr2 bo (bo + 1) () (strs l) ∧ RowW wr2 lo hi (.slice X k cx, k) (wris ws) ∧ Rd wr2 qa qb An (strs (putAllL l ws)) ∧ CodeK wr2 0 (w1.heap.size + 1) (B, n, g) l0 ∧ Below w.heap.size w wr2 ∧ w6.heap.size ≤ wr2.heap.size) (fun _ i _ => 7 - (intOf i).toNat)
   case atStart => exact ⟨0, [], _, 0, wq.heap.size, wq.heap.size + 1, _, 3, bo, bo + 1, Nat.zero_le _, rfl, rfl, ⟨rfl, trivial, (fun x hx => by cases hx), Nat.le_refl _, fun h => by cases h⟩, ⟨by omega, by omega, by omega, .inl (Nat.le_refl _)⟩, ⟨Nat.le_refl _, by omega, .inr (by omega), .inl (by omega)⟩, HXr.out, HXd.out, HXnow.out, HOF.out, HROW.out, (box_ownD HOF.out.1).rd, HOC.out, HB.out, Nat.le_refl _⟩
   case round =>
    clear HROW
    obtain ⟨k, ws, X, cx, lo, hi, An, cn, qa, qb, hk, rfl, rfl, ⟨hwl, haps, hfit, hkc, hXn⟩, ⟨i1, i2, i3, i4⟩, ⟨j1, j2, j3, j4⟩, hbr, hbd, hbn, hbf, hrow, hrd, hcc, hbl, hzl2⟩ := hrel
    have HBL2 := Lib.hid hbl
    have HAP := Lib.hid haps
    have HWL := Lib.hid hwl
    have HFT := Lib.hid hfit
    have HXN := Lib.hid hXn
    replace HB : Hid (Below w.heap.size w wr) := HBL2.out
    replace HXr : Hid (NewBox wr (w.heap.size) [.slice none 0 0]) := hbr
    clear hxr hfr hkr
    have hxr := HXr.out.2.1
    have hfr := HXr.out.2.2
    have hkr := HXr.out.1
    replace HXd : Hid (NewBox wr (w4.heap.size) [.slice (some ⟨bo, 0, none⟩) 3 3]) := hbd
    clear hxd hfd hkd
    have hxd := HXd.out.2.1
    have hfd := HXd.out.2.2
    have hkd := HXd.out.1
    replace HXnow : Hid (NewBox wr (wq.heap.size + 1) [.slice An 3 cn]) := hbn
    clear hxnow hfnow hknow
    have hxnow := HXnow.out.2.1
    have hfnow := HXnow.out.2.2
    have hknow := HXnow.out.1
    replace HOF : Hid (BoxK wr (bo) (bo + 1) (()) (strs l)) := Lib.hid hbf
    have HOA : Hid (RowW wr (lo) (hi) ((.slice X k cx, k)) (wris ws)) := Lib.hid hrow
    have HON : Hid (Rd wr (qa) (qb) (An) (strs (putAllL l ws))) := Lib.hid hrd
    replace HOC : Hid (CodeK wr (0) (w1.heap.size + 1) ((B, n, g)) (l0)) := Lib.hid hcc
    clear hxe1 hfe1 hke1 HXe1
    have hzz_wr : w.heap.size ≤ wr.heap.size := HB.out.size
    clear hbr hbd hbn hbf hrow hrd hcc hbl haps hwl hfit hXn
    go_wp2_with fail
    refine calls_named (fun w7 hw => ?_)
    have hz7 : wr.heap.size + 0 ≤ w7.heap.size := by rw [hw]; first | omega | (simp [World.setCell]; done) | (simp [World.setCell]; omega)
    have hzz7 : w.heap.size ≤ w7.heap.size := by omega
    have hbn : Below wr.heap.size wr w7 := by rw [hw]; exact (by ((repeat (first | ((with_reducible refine Below.alloc ?_ ?_ _); rotate_left 1; (focus (first | omega | (simp; done) | (simp; omega)))) | (with_reducible refine Below.drew ?_) | ((with_reducible refine Below.setCell ?_ ?_ _); rotate_left 1; (focus (first | omega | (simp; done) | (simp; omega)))))); exact Below.refl _ _))
    replace HB := Lib.hid (below_then HB.out hbn HB.out.size)
    replace HOC := Lib.hid (HOC.out.below hbn)
    replace HOF := Lib.hid (HOF.out.below hbn)
    replace HOA := Lib.hid (HOA.out.below hbn)
    replace HON := Lib.hid (HON.out.below hbn)
    replace HXr := Lib.hid (HXr.out.below hbn)
    clear hxr hfr hkr
    have hxr := HXr.out.2.1
    have hfr := HXr.out.2.2
    have hkr := HXr.out.1
    replace HXd := Lib.hid (HXd.out.below hbn)
    clear hxd hfd hkd
    have hxd := HXd.out.2.1
    have hfd := HXd.out.2.2
    have hkd := HXd.out.1
    replace HXnow := Lib.hid (HXnow.out.below hbn)
    clear hxnow hfnow hknow
    have hxnow := HXnow.out.2.1
    have hfnow := HXnow.out.2.2
    have hknow := HXnow.out.1
    clear hbn
    clear hw
    refine (l01Below_c w1.heap.size n g 0 w1.heap.size B l0 7 _ (CodeK.get HOC.out) (by omega) (by omega)).mono ?_
    rintro e w8 ⟨x, rfl, x0, x1, hc5, hb⟩
    have hzw8 : w7.heap.size ≤ w8.heap.size := hb.size
    have hzzw8 : w.heap.size ≤ w8.heap.size := by omega
    replace HB := Lib.hid (below_only HB.out hb (by omega) HB.out.size)
    replace HOF := Lib.hid (HOF.out.only hb (by first | omega | (simp; omega)))
    replace HOA := Lib.hid (HOA.out.only hb (by first | omega | (simp; omega)))
    replace HON := Lib.hid (HON.out.only hb (by first | omega | (simp; omega)))
    replace HXr := Lib.hid (HXr.out.only hb (by first | omega | (simp; omega)))
    clear hxr hfr hkr
    have hxr := HXr.out.2.1
    have hfr := HXr.out.2.2
    have hkr := HXr.out.1
    replace HXd := Lib.hid (HXd.out.only hb (by first | omega | (simp; omega)))
    clear hxd hfd hkd
    have hxd := HXd.out.2.1
    have hfd := HXd.out.2.2
    have hkd := HXd.out.1
    replace HXnow := Lib.hid (HXnow.out.only hb (by first | omega | (simp; omega)))
    clear hxnow hfnow hknow
    have hxnow := HXnow.out.2.1
    have hfnow := HXnow.out.2.2
    have hknow := HXnow.out.1
    clear hb
    clear HOC
    have HOC : Hid (CodeK w8 (0) (w1.heap.size + 1) ((B, n, g)) (l0)) := Lib.hid (CodeK.mk_ hc5)
    clear hc5
    by_cases hlt : (k : Int) < x
    ·skip
     go_wp2_with fail
     refine calls_named (fun w9 hw => ?_)
     have hz9 : w8.heap.size + 0 ≤ w9.heap.size := by rw [hw]; first | omega | (simp [World.setCell]; done) | (simp [World.setCell]; omega)
     have hzz9 : w.heap.size ≤ w9.heap.size := by omega
     have hbn : Below w8.heap.size w8 w9 := by rw [hw]; exact (by ((repeat (first | ((with_reducible refine Below.alloc ?_ ?_ _); rotate_left 1; (focus (first | omega | (simp; done) | (simp; omega)))) | (with_reducible refine Below.drew ?_) | ((with_reducible refine Below.setCell ?_ ?_ _); rotate_left 1; (focus (first | omega | (simp; done) | (simp; omega)))))); exact Below.refl _ _))
     replace HB := Lib.hid (below_then HB.out hbn HB.out.size)
     replace HOF := Lib.hid (HOF.out.below hbn)
     replace HOA := Lib.hid (HOA.out.below hbn)
     replace HON := Lib.hid (HON.out.below hbn)
     replace HOC := Lib.hid (HOC.out.below hbn)
     replace HXr := Lib.hid (HXr.out.below hbn)
     clear hxr hfr hkr
     have hxr := HXr.out.2.1
     have hfr := HXr.out.2.2
     have hkr := HXr.out.1
     replace HXd := Lib.hid (HXd.out.below hbn)
     clear hxd hfd hkd
     have hxd := HXd.out.2.1
     have hfd := HXd.out.2.2
     have hkd := HXd.out.1
     replace HXnow := Lib.hid (HXnow.out.below hbn)
     clear hxnow hfnow hknow
     have hxnow := HXnow.out.2.1
     have hfnow := HXnow.out.2.2
     have hknow := HXnow.out.1
     clear hbn
     clear hw
     refine (l01Below_c w1.heap.size n g 0 w1.heap.size B l0 3 _ (CodeK.get HOC.out) (by omega) (by omega)).mono ?_
     rintro e w10 ⟨y, rfl, y0, y1, hc6, hb⟩
     have hzw10 : w9.heap.size ≤ w10.heap.size := hb.size
     have hzzw10 : w.heap.size ≤ w10.heap.size := by omega
     replace HB := Lib.hid (below_only HB.out hb (by omega) HB.out.size)
     replace HOF := Lib.hid (HOF.out.only hb (by first | omega | (simp; omega)))
     replace HOA := Lib.hid (HOA.out.only hb (by first | omega | (simp; omega)))
     replace HON := Lib.hid (HON.out.only hb (by first | omega | (simp; omega)))
     replace HXr := Lib.hid (HXr.out.only hb (by first | omega | (simp; omega)))
     clear hxr hfr hkr
     have hxr := HXr.out.2.1
     have hfr := HXr.out.2.2
     have hkr := HXr.out.1
     replace HXd := Lib.hid (HXd.out.only hb (by first | omega | (simp; omega)))
     clear hxd hfd hkd
     have hxd := HXd.out.2.1
     have hfd := HXd.out.2.2
     have hkd := HXd.out.1
     replace HXnow := Lib.hid (HXnow.out.only hb (by first | omega | (simp; omega)))
     clear hxnow hfnow hknow
     have hxnow := HXnow.out.2.1
     have hfnow := HXnow.out.2.2
     have hknow := HXnow.out.1
     clear hb
     clear HOC
     have HOC : Hid (CodeK w10 (0) (w1.heap.size + 1) ((B, n, g)) (l0)) := Lib.hid (CodeK.mk_ hc6)
     clear hc6
     obtain ⟨q, rfl⟩ : ∃ q : Nat, y = q := ⟨y.toNat, by omega⟩
     have HPW := Lib.hid (apps_all (N := 8) HSM.out (by rw [HWL.out]; omega) HAP.out)
     have HD3 : Hid ((putAllL l ws).length = 3) := HPW.out.2.2.1
     obtain ⟨s, hks⟩ : ∃ s, (putAllL l ws)[q]? = some s := ⟨_, List.getElem?_eq_getElem (by rw [HD3.out]; omega)⟩
     obtain ⟨b, off, hAn, hb1, hb2, hb3, hcell⟩ := HON.out (by intro e; rw [strs, List.map_eq_nil_iff] at e; have := HD3.out; rw [e] at this; cases this)
     have hcs := hcell q _ (strs_get hks)
     have HSZ : Hid (s.size ≤ 1000) := Lib.hid (by have h1 := HPW.out.2.2.2 s (List.mem_of_getElem? hks); have h2 := HWL.out; omega)
     have HGD : Hid ((putAllL l ws).getD q ByteArray.empty = s) := Lib.hid (by rw [List.getD_eq_getElem?_getD, hks]; rfl)
     subst hAn
     have hI : (q : Int) < 3 := by omega
     clear hcell hks HPW
     go_wp2_with fail
     go_cut [11] from 32 to 61 (fun v wx => ∃ (kb : Nat) (t6 : ByteArray), v = .pointer (some ⟨kb, 0, none⟩) ∧ t6.size ≤ 8 ∧ w10.heap.size ≤ kb ∧ kb < wx.heap.size ∧ NewBox wx kb [.int .i64 (q : Nat), .int .i64 (s.size : Nat), .string t6] ∧ CodeK wx 0 (w1.heap.size + 1) (B, n, g) l0 ∧ Only w1.heap.size (w1.heap.size + 1) w10 wx)
     case first =>
      go_region_held3 (fun w' => w'.cell? ⟨(wq.heap.size + 1), 0, none⟩ = some (.slice (some ⟨b, off, none⟩) 3 cn) ∧ w'.cell? ⟨b, off + q, none⟩ = some (.string s)) (first | exact ⟨NewBox.cell (o := 0) (cs := [.slice (some ⟨b, off, none⟩) 3 cn]) (by (repeat (first | (with_reducible refine NewBox.alloc ?_ _) | (with_reducible refine NewBox.drew ?_) | ((with_reducible refine NewBox.setCell ?_ ?_ _); rotate_left 1; (focus (first | omega | (simp; done) | (simp; omega)))))); exact HXn6.out) rfl, (show CellK _ b (off + q) (.string s) from (by (repeat (first | (with_reducible refine CellK.alloc ?_ _) | (with_reducible refine CellK.drew ?_) | ((with_reducible refine CellK.setCell ?_ ?_ _); rotate_left 1; (focus (first | omega | (simp; done) | (simp; omega)))))); exact hcs6))⟩ | exact ⟨NewBox.cell (o := 0) (cs := [.slice (some ⟨b, off, none⟩) 3 cn]) (by (repeat (first | (with_reducible refine NewBox.alloc ?_ _) | (with_reducible refine NewBox.drew ?_) | ((with_reducible refine NewBox.setCell ?_ ?_ _); rotate_left 1; (focus (first | omega | (simp; done) | (simp; omega)))))); exact HXn5.out) rfl, (show CellK _ b (off + q) (.string s) from (by (repeat (first | (with_reducible refine CellK.alloc ?_ _) | (with_reducible refine CellK.drew ?_) | ((with_reducible refine CellK.setCell ?_ ?_ _); rotate_left 1; (focus (first | omega | (simp; done) | (simp; omega)))))); exact hcs5))⟩ | exact ⟨NewBox.cell (o := 0) (cs := [.slice (some ⟨b, off, none⟩) 3 cn]) (by (repeat (first | (with_reducible refine NewBox.alloc ?_ _) | (with_reducible refine NewBox.drew ?_) | ((with_reducible refine NewBox.setCell ?_ ?_ _); rotate_left 1; (focus (first | omega | (simp; done) | (simp; omega)))))); exact HXnow.out) rfl, (show CellK _ b (off + q) (.string s) from (by (repeat (first | (with_reducible refine CellK.alloc ?_ _) | (with_reducible refine CellK.drew ?_) | ((with_reducible refine CellK.setCell ?_ ?_ _); rotate_left 1; (focus (first | omega | (simp; done) | (simp; omega)))))); exact hcs))⟩) (first | (go_at_call 33; refine (l01Text_c w1.heap.size n g 0 w1.heap.size B l0 m5 _ (CodeK.get (by (repeat (first | (with_reducible refine CodeK.alloc ?_ _) | (with_reducible refine CodeK.drew ?_) | ((with_reducible refine CodeK.setCell ?_ ?_ _); rotate_left 1; (focus (first | omega | (simp; done) | (simp; omega)))))); exact HC5.out)) (by omega) (by first | omega | (simp; done) | (simp; omega))).mono ?_; rintro e w6_ ⟨t6, rfl, ht6, hc6, ho6⟩; have HC6 := Lib.hid (CodeK.mk_ hc6); have HO6 : Hid (Only w1.heap.size (w1.heap.size + 1) w10 w6_) := Lib.hid (HO5.out.trans ((Only.of_below (by ((repeat (first | ((with_reducible refine Below.alloc ?_ ?_ _); rotate_left 1; (focus (first | omega | (simp; done) | (simp; omega)))) | (with_reducible refine Below.drew ?_) | ((with_reducible refine Below.setCell ?_ ?_ _); rotate_left 1; (focus (first | omega | (simp; done) | (simp; omega)))))); exact Below.refl _ _))).trans ho6)); have HXn6 : Hid (NewBox w6_ ((wq.heap.size + 1)) [.slice (some ⟨b, off, none⟩) 3 cn]) := Lib.hid (NewBox.only (by (repeat (first | (with_reducible refine NewBox.alloc ?_ _) | (with_reducible refine NewBox.drew ?_) | ((with_reducible refine NewBox.setCell ?_ ?_ _); rotate_left 1; (focus (first | omega | (simp; done) | (simp; omega)))))); exact HXn5.out) ho6 (by omega)); have hcs6 := celoD ho6 (cell_later (by ((repeat (first | ((with_reducible refine Below.alloc ?_ ?_ _); rotate_left 1; (focus (first | omega | (simp; done) | (simp; omega)))) | (with_reducible refine Below.drew ?_) | ((with_reducible refine Below.setCell ?_ ?_ _); rotate_left 1; (focus (first | omega | (simp; done) | (simp; omega)))))); exact Below.refl _ _)) hcs5) (by omega); have hz6 := HO6.out.size; have hzz6 := ho6.size; (first | (have HZ6 : Hid (NewBox w6_ w10.heap.size #[.int .i64 0, .int .i64 0, .string ⟨#[]⟩].toList) := Lib.hid (NewBox.only (by (repeat (first | (with_reducible refine NewBox.alloc ?_ _) | (with_reducible refine NewBox.drew ?_) | ((with_reducible refine NewBox.setCell ?_ ?_ _); rotate_left 1; (focus (first | omega | (simp; done) | (simp; omega)))))); exact HZ5.out) ho6 (by omega)); have hzx6 := HZ6.out.2.1; have hzf6 := HZ6.out.2.2; have hzk6 := HZ6.out.1) | (have HZ6 : Hid (NewBox w6_ w5_.heap.size #[.int .i64 0, .int .i64 0, .string ⟨#[]⟩].toList) := Lib.hid (NewBox.only (by first | exact NewBox.new _ #[.int .i64 0, .int .i64 0, .string ⟨#[]⟩] _ | (refine NewBox.drew ?_; exact NewBox.new _ #[.int .i64 0, .int .i64 0, .string ⟨#[]⟩] _)) ho6 (by omega)); have hzx6 := HZ6.out.2.1; have hzf6 := HZ6.out.2.2; have hzk6 := HZ6.out.1) | skip); clear hc6 ho6) | (go_at_call 34; refine (l01Below_c w1.heap.size n g 0 w1.heap.size B l0 9 _ (CodeK.get (by (repeat (first | (with_reducible refine CodeK.alloc ?_ _) | (with_reducible refine CodeK.drew ?_) | ((with_reducible refine CodeK.setCell ?_ ?_ _); rotate_left 1; (focus (first | omega | (simp; done) | (simp; omega)))))); exact HOC.out)) (by omega) (by omega)).mono ?_; rintro e w5_ ⟨x5, rfl, x50, x51, hc5, ho5⟩; obtain ⟨m5, rfl⟩ : ∃ m : Nat, x5 = m := ⟨x5.toNat, by omega⟩; have HC5 := Lib.hid (CodeK.mk_ hc5); have HO5 : Hid (Only w1.heap.size (w1.heap.size + 1) w10 w5_) := Lib.hid ((Only.of_below (by ((repeat (first | ((with_reducible refine Below.alloc ?_ ?_ _); rotate_left 1; (focus (first | omega | (simp; done) | (simp; omega)))) | (with_reducible refine Below.drew ?_) | ((with_reducible refine Below.setCell ?_ ?_ _); rotate_left 1; (focus (first | omega | (simp; done) | (simp; omega)))))); exact Below.refl _ _))).trans ho5); have HXn5 : Hid (NewBox w5_ ((wq.heap.size + 1)) [.slice (some ⟨b, off, none⟩) 3 cn]) := Lib.hid (NewBox.only (by (repeat (first | (with_reducible refine NewBox.alloc ?_ _) | (with_reducible refine NewBox.drew ?_) | ((with_reducible refine NewBox.setCell ?_ ?_ _); rotate_left 1; (focus (first | omega | (simp; done) | (simp; omega)))))); exact HXnow.out) ho5 (by omega)); have hcs5 := celoD ho5 (cell_later (by ((repeat (first | ((with_reducible refine Below.alloc ?_ ?_ _); rotate_left 1; (focus (first | omega | (simp; done) | (simp; omega)))) | (with_reducible refine Below.drew ?_) | ((with_reducible refine Below.setCell ?_ ?_ _); rotate_left 1; (focus (first | omega | (simp; done) | (simp; omega)))))); exact Below.refl _ _)) hcs) (by omega); have hz5 := HO5.out.size; have hal5 : m5 ≤ 8 := (by omega); (try have HZ5 : Hid (NewBox w5_ w10.heap.size #[.int .i64 0, .int .i64 0, .string ⟨#[]⟩].toList) := Lib.hid (NewBox.only (by first | exact NewBox.new _ #[.int .i64 0, .int .i64 0, .string ⟨#[]⟩] _ | (refine NewBox.drew ?_; exact NewBox.new _ #[.int .i64 0, .int .i64 0, .string ⟨#[]⟩] _)) ho5 (by omega))); clear hc5 ho5))
      all_goals
       go_wp2_with fail
       go_meet
       (first | exact ⟨w10.heap.size, t6, rfl, by omega, by omega, (by first | omega | (simp [World.setCell]; done) | (simp [World.setCell]; omega)), ⟨(by first | omega | (simp [World.setCell]; done) | (simp [World.setCell]; omega)), fun o => by rcases o with _ | _ | _ | o <;> go_simp, fun o => by go_simp⟩, (by (repeat (first | (with_reducible refine CodeK.alloc ?_ _) | (with_reducible refine CodeK.drew ?_) | ((with_reducible refine CodeK.setCell ?_ ?_ _); rotate_left 1; (focus (first | omega | (simp; done) | (simp; omega)))))); exact HC6.out), (by (repeat (first | ((with_reducible refine only_new ?_ ?_ _); rotate_left 1; (focus (first | omega | (simp; done) | (simp; omega)))) | (with_reducible refine only_alloc ?_ _) | (with_reducible refine only_drew ?_))); exact HO6.out)⟩ | exact ⟨w5_.heap.size, t6, rfl, by omega, by omega, (by first | omega | (simp [World.setCell]; done) | (simp [World.setCell]; omega)), ⟨(by first | omega | (simp [World.setCell]; done) | (simp [World.setCell]; omega)), fun o => by rcases o with _ | _ | _ | o <;> go_simp, fun o => by go_simp⟩, (by (repeat (first | (with_reducible refine CodeK.alloc ?_ _) | (with_reducible refine CodeK.drew ?_) | ((with_reducible refine CodeK.setCell ?_ ?_ _); rotate_left 1; (focus (first | omega | (simp; done) | (simp; omega)))))); exact HC6.out), (by (repeat (first | ((with_reducible refine only_new ?_ ?_ _); rotate_left 1; (focus (first | omega | (simp; done) | (simp; omega)))) | (with_reducible refine only_alloc ?_ _) | (with_reducible refine only_drew ?_))); exact HO6.out)⟩ | exact ⟨w6_.heap.size, t6, rfl, by omega, by omega, (by first | omega | (simp [World.setCell]; done) | (simp [World.setCell]; omega)), ⟨(by first | omega | (simp [World.setCell]; done) | (simp [World.setCell]; omega)), fun o => by rcases o with _ | _ | _ | o <;> go_simp, fun o => by go_simp⟩, (by (repeat (first | (with_reducible refine CodeK.alloc ?_ _) | (with_reducible refine CodeK.drew ?_) | ((with_reducible refine CodeK.setCell ?_ ?_ _); rotate_left 1; (focus (first | omega | (simp; done) | (simp; omega)))))); exact HC6.out), (by (repeat (first | ((with_reducible refine only_new ?_ ?_ _); rotate_left 1; (focus (first | omega | (simp; done) | (simp; omega)))) | (with_reducible refine only_alloc ?_ _) | (with_reducible refine only_drew ?_))); exact HO6.out)⟩)
     case rest =>
      obtain ⟨kb, t6, rfl, ht6, hkb1, hkb2, hbx, hcc2, ho13⟩ := hcut
      have hzwc : w10.heap.size ≤ wc.heap.size := ho13.size
      have hzzwc : w.heap.size ≤ wc.heap.size := by omega
      replace HB := Lib.hid (below_only HB.out ho13 (by omega) HB.out.size)
      replace HOF := Lib.hid (HOF.out.only ho13 (by first | omega | (simp; omega)))
      replace HOA := Lib.hid (HOA.out.only ho13 (by first | omega | (simp; omega)))
      replace HON := Lib.hid (HON.out.only ho13 (by first | omega | (simp; omega)))
      replace HXr := Lib.hid (HXr.out.only ho13 (by first | omega | (simp; omega)))
      clear hxr hfr hkr
      have hxr := HXr.out.2.1
      have hfr := HXr.out.2.2
      have hkr := HXr.out.1
      replace HXd := Lib.hid (HXd.out.only ho13 (by first | omega | (simp; omega)))
      clear hxd hfd hkd
      have hxd := HXd.out.2.1
      have hfd := HXd.out.2.2
      have hkd := HXd.out.1
      replace HXnow := Lib.hid (HXnow.out.only ho13 (by first | omega | (simp; omega)))
      clear hxnow hfnow hknow
      have hxnow := HXnow.out.2.1
      have hfnow := HXnow.out.2.2
      have hknow := HXnow.out.1
      clear HOC hcs ho13
      have HOC : Hid (CodeK wc (0) (w1.heap.size + 1) ((B, n, g)) (l0)) := Lib.hid hcc2
      have HXwb : Hid (NewBox wc (kb) [.int .i64 (q : Nat), .int .i64 (s.size : Nat), .string t6]) := hbx
      have hxwb := HXwb.out.2.1
      have hfwb := HXwb.out.2.2
      have hkwb := HXwb.out.1
      clear hcc2 hbx
      have HSN := Lib.hid (apps_snoc (x := ⟨q, s.size, t6⟩) (N := 8) HSM.out (by rw [HWL.out]; omega) HAP.out (by show (0 : Int) ≤ (q : Int); omega) (by show (q : Int) ≤ 2; omega) (by show ((s.size : Nat) : Int) = _; rw [Int.toNat_natCast, HGD.out]) (by show t6.size ≤ 8; exact ht6))
      have HFX : Hid ((⟨q, s.size, t6⟩ : Wri).fits) := Lib.hid ⟨⟨by show (-9223372036854775808 : Int) ≤ (q : Int); omega, by show (q : Int) ≤ 9223372036854775807; omega⟩, ⟨by show (-9223372036854775808 : Int) ≤ ((s.size : Nat) : Int); omega, by show ((s.size : Nat) : Int) ≤ 9223372036854775807; have := HSZ.out; omega⟩, by show t6.size ≤ maxLen; unfold maxLen; omega⟩
      go_wp2_with (at_builtin; refine app1WriL rfl _ _ rfl lo hi wc.heap.size _ k _ ⟨q, s.size, t6⟩ rfl (HOA.out.alloc _) rfl (NewBox.new wc _ _) (by omega) (by first | omega | (simp; done) | (simp; omega)) (wc.heap.size + 1) (by simp) ?_)
      intro g2 c2 w8_ hg1 hg2 hg3 hg4 hrw hon0
      have hon := (Only.of_below ((Below.refl _ _).alloc (Nat.le_refl _) _)).trans hon0
      rw [← wris_app] at hrw
      have hzw8_ : wc.heap.size ≤ w8_.heap.size := hon.size
      have hzzw8_ : w.heap.size ≤ w8_.heap.size := by omega
      replace HB := Lib.hid (below_only HB.out hon (by omega) HB.out.size)
      replace HOF := Lib.hid (HOF.out.only hon (by first | omega | (simp; omega)))
      replace HON := Lib.hid (HON.out.only hon (by first | omega | (simp; omega)))
      replace HOC := Lib.hid (HOC.out.only hon (by first | omega | (simp; omega)))
      replace HXr := Lib.hid (HXr.out.only hon (by first | omega | (simp; omega)))
      clear hxr hfr hkr
      have hxr := HXr.out.2.1
      have hfr := HXr.out.2.2
      have hkr := HXr.out.1
      replace HXd := Lib.hid (HXd.out.only hon (by first | omega | (simp; omega)))
      clear hxd hfd hkd
      have hxd := HXd.out.2.1
      have hfd := HXd.out.2.2
      have hkd := HXd.out.1
      replace HXnow := Lib.hid (HXnow.out.only hon (by first | omega | (simp; omega)))
      clear hxnow hfnow hknow
      have hxnow := HXnow.out.2.1
      have hfnow := HXnow.out.2.2
      have hknow := HXnow.out.1
      replace HXwb := Lib.hid (HXwb.out.only hon (by first | omega | (simp; omega)))
      clear hxwb hfwb hkwb
      have hxwb := HXwb.out.2.1
      have hfwb := HXwb.out.2.2
      have hkwb := HXwb.out.1
      clear HOA hon hon0
      have HOA : Hid (RowW w8_ (g2) (g2 + 1) ((.slice (some ⟨g2, 0, none⟩) (k + 1) c2, k + 1)) (wris (ws ++ [⟨q, s.size, t6⟩]))) := Lib.hid hrw
      clear hrw
      go_wp2_with fail
      refine calls_named (fun w11 hw => ?_)
      have hz11 : w8_.heap.size + 0 ≤ w11.heap.size := by rw [hw]; first | omega | (simp [World.setCell]; done) | (simp [World.setCell]; omega)
      have hzz11 : w.heap.size ≤ w11.heap.size := by omega
      have hbn : Below w8_.heap.size w8_ w11 := by rw [hw]; exact (by ((repeat (first | ((with_reducible refine Below.alloc ?_ ?_ _); rotate_left 1; (focus (first | omega | (simp; done) | (simp; omega)))) | (with_reducible refine Below.drew ?_) | ((with_reducible refine Below.setCell ?_ ?_ _); rotate_left 1; (focus (first | omega | (simp; done) | (simp; omega)))))); exact Below.refl _ _))
      replace HB := Lib.hid (below_then HB.out hbn HB.out.size)
      replace HOF := Lib.hid (HOF.out.below hbn)
      replace HON := Lib.hid (HON.out.below hbn)
      replace HOC := Lib.hid (HOC.out.below hbn)
      replace HOA := Lib.hid (HOA.out.below hbn)
      replace HXr := Lib.hid (HXr.out.below hbn)
      clear hxr hfr hkr
      have hxr := HXr.out.2.1
      have hfr := HXr.out.2.2
      have hkr := HXr.out.1
      replace HXd := Lib.hid (HXd.out.below hbn)
      clear hxd hfd hkd
      have hxd := HXd.out.2.1
      have hfd := HXd.out.2.2
      have hkd := HXd.out.1
      replace HXnow := Lib.hid (HXnow.out.below hbn)
      clear hxnow hfnow hknow
      have hxnow := HXnow.out.2.1
      have hfnow := HXnow.out.2.2
      have hknow := HXnow.out.1
      replace HXwb := Lib.hid (HXwb.out.below hbn)
      clear hxwb hfwb hkwb
      have hxwb := HXwb.out.2.1
      have hfwb := HXwb.out.2.2
      have hkwb := HXwb.out.1
      clear hbn
      clear hw
      refine (specPut_c (some ⟨b, off, none⟩) cn _ _ 3 (putAllL l ws) ⟨q, s.size, t6⟩ _ HON.out HD3.out (by omega) HFX.out).mono ?_
      rintro e w12 ⟨An2, cn2, rfl, ho2, hb⟩
      have hzw12 : w11.heap.size ≤ w12.heap.size := hb.size
      have hzzw12 : w.heap.size ≤ w12.heap.size := by omega
      replace HB := Lib.hid (below_then HB.out hb HB.out.size)
      replace HOF := Lib.hid (HOF.out.below hb)
      replace HON := Lib.hid (HON.out.below hb)
      replace HOC := Lib.hid (HOC.out.below hb)
      replace HOA := Lib.hid (HOA.out.below hb)
      replace HXr := Lib.hid (HXr.out.below hb)
      clear hxr hfr hkr
      have hxr := HXr.out.2.1
      have hfr := HXr.out.2.2
      have hkr := HXr.out.1
      replace HXd := Lib.hid (HXd.out.below hb)
      clear hxd hfd hkd
      have hxd := HXd.out.2.1
      have hfd := HXd.out.2.2
      have hkd := HXd.out.1
      replace HXnow := Lib.hid (HXnow.out.below hb)
      clear hxnow hfnow hknow
      have hxnow := HXnow.out.2.1
      have hfnow := HXnow.out.2.2
      have hknow := HXnow.out.1
      replace HXwb := Lib.hid (HXwb.out.below hb)
      clear hxwb hfwb hkwb
      have hxwb := HXwb.out.2.1
      have hfwb := HXwb.out.2.2
      have hkwb := HXwb.out.1
      clear hb
      rw [← HSN.out.2] at ho2
      have HPL : Hid ((putM (putAllL l ws) ⟨q, s.size, t6⟩).length = 3) := Lib.hid (by rw [← HSN.out.2, putAllL_len]; exact HSM.out.1)
      rw [HPL.out]
      have HON2 : Hid (Own w12 (w11.heap.size) (w12.heap.size) (An2) (strs (putAllL l (ws ++ [⟨q, s.size, t6⟩])))) := Lib.hid ho2
      clear ho2
      clear HON
      clear hxwb hfwb hkwb HXwb
      go_wp2
      go_roundw
      case rel => (repeat apply Exists.intro); exact ⟨⟨k + 1, ws ++ [⟨q, s.size, t6⟩], _, c2, g2, g2 + 1, An2, cn2, w11.heap.size, w12.heap.size, by omega, by go_num, rfl, ⟨by rw [List.length_append, HWL.out]; rfl, HSN.out.1, (fun x hx => (List.mem_append.1 hx).elim (HFT.out x) (fun h => by rw [List.mem_singleton.1 h]; exact HFX.out)), hg4, fun h => by cases h⟩, ⟨by omega, by omega, (by first | omega | (simp [World.setCell]; done) | (simp [World.setCell]; omega)), by omega⟩, ⟨by omega, by omega, .inl (by omega), .inr (by omega)⟩, (by (repeat (first | (with_reducible refine NewBox.alloc ?_ _) | (with_reducible refine NewBox.drew ?_) | ((with_reducible refine NewBox.setCell ?_ ?_ _); rotate_left 1; (focus (first | omega | (simp; done) | (simp; omega)))))); exact HXr.out), (by (repeat (first | (with_reducible refine NewBox.alloc ?_ _) | (with_reducible refine NewBox.drew ?_) | ((with_reducible refine NewBox.setCell ?_ ?_ _); rotate_left 1; (focus (first | omega | (simp; done) | (simp; omega)))))); exact HXd.out), (by exact ⟨by first | omega | (simp [World.setCell]; done) | (simp [World.setCell]; omega), fun o => by rcases o with _ | o <;> go_simp, fun o => by go_simp⟩), (by (repeat (first | (with_reducible refine BoxK.alloc ?_ _) | (with_reducible refine BoxK.drew ?_) | ((with_reducible refine BoxK.setCell ?_ ?_ _); rotate_left 1; (focus (first | omega | (simp; done) | (simp; omega)))))); exact HOF.out), (by (repeat (first | (with_reducible refine RowW.alloc ?_ _) | (with_reducible refine RowW.drew ?_) | ((with_reducible refine RowW.setCell ?_ ?_ _); rotate_left 1; (focus (first | omega | (simp; done) | (simp; omega)))))); exact HOA.out), ((by (repeat (first | (with_reducible refine Own.alloc ?_ _) | (with_reducible refine Own.drew ?_) | ((with_reducible refine Own.setCell ?_ ?_ _); rotate_left 1; (focus (first | omega | (simp; done) | (simp; omega)))))); exact HON2.out) : Own _ _ _ _ _).rd, (by (repeat (first | (with_reducible refine CodeK.alloc ?_ _) | (with_reducible refine CodeK.drew ?_) | ((with_reducible refine CodeK.setCell ?_ ?_ _); rotate_left 1; (focus (first | omega | (simp; done) | (simp; omega)))))); exact HOC.out), (by ((repeat (first | ((with_reducible refine Below.alloc ?_ ?_ _); rotate_left 1; (focus (first | omega | (simp; done) | (simp; omega)))) | (with_reducible refine Below.drew ?_) | ((with_reducible refine Below.setCell ?_ ?_ _); rotate_left 1; (focus (first | omega | (simp; done) | (simp; omega)))))); exact HB.out)), (by first | omega | (simp [World.setCell]; done) | (simp [World.setCell]; omega))⟩, rfl⟩
      case measure => simp [intOf]; omega
    ·skip
     clear HON
     clear hxnow hfnow hknow HXnow
     clear HOC
     go_wp2
     refine bodyPost_named (fun w9 hw => ?_)
     have hz9 : w8.heap.size + 0 ≤ w9.heap.size := by rw [hw]; first | omega | (simp [World.setCell]; done) | (simp [World.setCell]; omega)
     have hzz9 : w.heap.size ≤ w9.heap.size := by omega
     replace HB : Hid (Below w.heap.size w w9) := by rw [Hid, hw]; exact (by ((repeat (first | ((with_reducible refine Below.alloc ?_ ?_ _); rotate_left 1; (focus (first | omega | (simp; done) | (simp; omega)))) | (with_reducible refine Below.drew ?_) | ((with_reducible refine Below.setCell ?_ ?_ _); rotate_left 1; (focus (first | omega | (simp; done) | (simp; omega)))))); exact HB.out))
     replace HOF : Hid (BoxK w9 (bo) (bo + 1) (()) (strs l)) := by rw [Hid, hw]; (repeat (first | (with_reducible refine BoxK.alloc ?_ _) | (with_reducible refine BoxK.drew ?_) | ((with_reducible refine BoxK.setCell ?_ ?_ _); rotate_left 1; (focus (first | omega | (simp; done) | (simp; omega)))))); exact HOF.out
     replace HOA : Hid (RowW w9 (lo) (hi) ((.slice X k cx, k)) (wris ws)) := by rw [Hid, hw]; (repeat (first | (with_reducible refine RowW.alloc ?_ _) | (with_reducible refine RowW.drew ?_) | ((with_reducible refine RowW.setCell ?_ ?_ _); rotate_left 1; (focus (first | omega | (simp; done) | (simp; omega)))))); exact HOA.out
     replace HXr : Hid (NewBox w9 (w.heap.size) [.slice (some ⟨bo, 0, none⟩) 3 3]) := by rw [Hid, hw]; apply NewBox.cast; (focus ((repeat (first | (with_reducible apply NewBox.alloc) | (with_reducible apply NewBox.drew) | (with_reducible apply NewBox.set1) | ((with_reducible apply NewBox.far); (focus (first | omega | (simp; done) | (simp; omega)))))); exact HXr.out)); rfl
     clear hxr hfr hkr
     have hxr := HXr.out.2.1
     have hfr := HXr.out.2.2
     have hkr := HXr.out.1
     replace HXd : Hid (NewBox w9 (w4.heap.size) [.slice (some ⟨bo, 0, none⟩) 3 3]) := by rw [Hid, hw]; (repeat (first | (with_reducible refine NewBox.alloc ?_ _) | (with_reducible refine NewBox.drew ?_) | ((with_reducible refine NewBox.setCell ?_ ?_ _); rotate_left 1; (focus (first | omega | (simp; done) | (simp; omega)))))); exact HXd.out
     clear hxd hfd hkd
     have hxd := HXd.out.2.1
     have hfd := HXd.out.2.2
     have hkd := HXd.out.1
     clear hw
     refine bodyPost_ret (v := .tuple #[.agg #[.slice (some ⟨bo, 0, none⟩) 3 3], .slice X k cx]) (by simp [results, Try.results8, go_sem, hxr]) rfl ?_
     exact ⟨l, ws, _, _, X, cx, k, rfl, ⟨HSM.out, HAP.out, HWL.out, by omega, by omega, HXN.out, HFT.out, (box_ownD HOF.out.1).rd.base, (HOA.out.rdW (by omega)).base⟩, HB.out⟩
end Go.Proofs.Ytoccjgcokffkbaa
