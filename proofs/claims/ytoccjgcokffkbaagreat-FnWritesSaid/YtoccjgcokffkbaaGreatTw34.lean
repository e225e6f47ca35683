/- Part 34 of the proof of FnWrites: lemmas and contracts. -/
import Derived.Test.YtoccjgcokffkbaaGreatTw3
import Derived.Test.YtoccjgcokffkbaaGreatTw7
namespace Go.Proofs.YtoccjgcokffkbaaGreat
set_option linter.unusedVariables false
set_option linter.unusedSimpArgs false
set_option maxHeartbeats 20000000
set_option maxRecDepth 100000
section
open Go.RowKit
theorem Rd.int {w : World} {lo hi : Nat} {A : Option Addr} {l : List Int} (h : Rd w lo hi A (ints l)) {k : Nat} (hk : k < l.length) :
  ∃ b off s, A = some ⟨b, off, none⟩ ∧ b < w.heap.size ∧ l[k]? = some s ∧ w.cell? ⟨b, off + k, none⟩ = some (.int .i64 s) := by
 obtain ⟨b, off, h1, h2, h3⟩ := h.at_ (j := k) (by simpa [ints] using hk)
 exact ⟨b, off, l[k], h1, h2, List.getElem?_eq_getElem hk, h3 k _ (ints_get (List.getElem?_eq_getElem hk))⟩
def aG (w : World) (lo hi : Nat) (a : Option Addr × Nat × Nat) (l : List Int) : Prop := lo = 0 ∧ ∃ p, hi = p + 1 ∧ Code w p a.1 a.2.1 a.2.2 0 p l
theorem aG.mk_ {w : World} {p n g : Nat} {B : Option Addr} {l : List Int} (h : Code w p B n g 0 p l) : aG w 0 (p + 1) (B, n, g) l := ⟨rfl, p, rfl, h⟩
theorem aG.get {w : World} {p n g : Nat} {B : Option Addr} {l : List Int} (h : aG w 0 (p + 1) (B, n, g) l) : Code w p B n g 0 p l := by
 obtain ⟨_, q, h1, h2⟩ := h
 obtain rfl : p = q := by omega
 exact h2
section
variable {w w' : World} {lo hi lo' hi' : Nat} {a : Option Addr × Nat × Nat} {l : List Int}
theorem aG.below (h : aG w lo hi a l) (hb : Below w.heap.size w w') : aG w' lo hi a l := by
 obtain ⟨h1, p, h2, h3⟩ := h; exact ⟨h1, p, h2, h3.below hb⟩
theorem aG.only (h : aG w lo hi a l) (ho : Only lo' hi' w w') (hd : hi ≤ lo' ∨ hi' ≤ lo) : aG w' lo hi a l := by
 obtain ⟨h1, p, h2, h3⟩ := h
 refine ⟨h1, p, h2, ?_⟩
 obtain ⟨i, k, hx, hi2⟩ := h3.cur
 exact ⟨⟨i, k, hx.only ho (by omega), hi2⟩, h3.rd.only ho (by omega), h3.len, h3.small, h3.byte, h3.far⟩
theorem aG.alloc (h : aG w lo hi a l) (o : Obj) : aG (w.alloc o) lo hi a l := h.below ((Below.refl _ _).alloc (Nat.le_refl _) o)
theorem aG.drew (h : aG w lo hi a l) : aG w.drew lo hi a l := h.below ((Below.refl _ _).drew)
theorem aG.setCell (h : aG w lo hi a l) {p : Addr} (hp : p.block < lo ∨ hi ≤ p.block) (u : Value) : aG (w.setCell p u) lo hi a l := by
 have ho : Only p.block (p.block + 1) w (w.setCell p u) := (Only.refl _ _ _).setCell (Nat.le_refl _) (Nat.lt_succ_self _) u
 exact h.only ho (by have := h.1; omega)
end
theorem only_new {w w' : World} {lo hi : Nat} {p : Addr} (h : Only lo hi w w') (hk : w.heap.size ≤ p.block) (u : Value) : Only lo hi w (w'.setCell p u) :=
 ⟨h.os, h.tape, h.output, by simpa [World.setCell] using h.size, fun k hk2 hd => (Below.heap_setCell _ _ _ _ (by omega)).trans (h.block k hk2 hd)⟩
theorem only_alloc {w w' : World} {lo hi : Nat} (h : Only lo hi w w') (o : Obj) : Only lo hi w (w'.alloc o) := h.trans ((Only.of_below ((Below.refl _ _).alloc (Nat.le_refl _) o)))
theorem only_drew {w w' : World} {lo hi : Nat} (h : Only lo hi w w') : Only lo hi w w'.drew := ⟨h.os, h.tape, h.output, h.size, h.block⟩
theorem rd_strs {w : World} {k : Nat} {cs : List Value} {xs : List ByteArray} (h : aa w k cs) (e : cs = strs xs) : Rd w k (k + 1) (some ⟨k, 0, none⟩) (strs xs) := fun _ =>
 ⟨k, 0, rfl, Nat.le_refl _, Nat.lt_succ_self _, h.1, fun j u hj => by rw [Nat.zero_add, ← e] at *; exact (h.2.1 j).trans hj⟩
theorem l01Pick_c {w : World} {p n g : Nat} {B : Option Addr} {l : List Int} (h : Code w p B n g 0 p l) (A : Option Addr) (c m lo hi : Nat) (xs : List ByteArray) (hr : Rd w lo hi A (strs xs)) (hx : xs.length = m) (hm : 0 < m) (hm2 : m ≤ 1000) (hlo : p + 1 ≤ lo) :
  Calls Tryz.prog 35 #[.pointer (some ⟨p, 0, none⟩), .slice A m c] w fun e w' => ∃ x : ByteArray, e = .returned (.string x) ∧ x ∈ xs ∧ Code w' p B n g 0 p l ∧ Only p (p + 1) w w' := by
 have HC := lH h
 have HR := lH hr
 have HX := lH hx
 clear h hr hx
 go_enter Tryz.func35, Tryz.ntmps35
 go_wp2_with fail
 refine (bU p n g 0 p B l (m : Nat) _ HC.out (by omega) (by omega)).mono ?_
 rintro e w1 ⟨x, rfl, x0, x1, hc, ho⟩
 have HC1 := lH hc
 have HO1 := lH ho
 obtain ⟨k, rfl⟩ : ∃ k : Nat, x = k := ⟨x.toNat, by omega⟩
 obtain ⟨b, off, y, rfl, hb, hy, hcell⟩ := (HR.out.only HO1.out (by omega)).str (k := k) (by rw [HX.out]; omega)
 have HY := lH (List.mem_of_getElem? hy)
 have hI : (k : Int) < m := by omega
 clear hc ho HC hy
 go_wp2
 go_ret
 exact ⟨y, rfl, HY.out, HC1.out, HO1.out⟩
def topN : List ByteArray := [⟨#[110, 101, 119, 115]⟩, ⟨#[112, 97, 121, 45, 55]⟩, ⟨#[97]⟩]
theorem topN_ok : ∀ t ∈ topN, bW t = true := by
 intro t ht
 simp only [topN, List.mem_cons, List.not_mem_nil, or_false] at ht
 rcases ht with rfl | rfl | rfl <;> decide +kernel
theorem l09Topic_c {w : World} {p n g : Nat} {B : Option Addr} {l : List Int} (h : Code w p B n g 0 p l) (hp : p < w.heap.size) :
  Calls Tryz.prog 33 #[.pointer (some ⟨p, 0, none⟩)] w fun e w' => ∃ x : ByteArray, e = .returned (.string x) ∧ bW x = true ∧ Code w' p B n g 0 p l ∧ Only p (p + 1) w w' := by
 have HB : Hid (Only (p) (p + 1) w w) := Only.refl _ _ _
 have HOC : Hid (aG w (0) (p + 1) ((B, n, g)) (l)) := lH (aG.mk_ h)
 clear h
 go_enter Tryz.func33, Tryz.ntmps33
 go_wp2_with fail
 refine af (fun w1 hw => ?_)
 have hz1 : w.heap.size + 1 ≤ w1.heap.size := zA
 have hbn : Below w.heap.size w w1 := zB
 replace HB := lH (HB.out.trans (Only.of_below hbn))
 replace HOC := lH (HOC.out.below hbn)
 clear hbn
 have HXz : Hid (aa w1 (w.heap.size) [.string ⟨#[110, 101, 119, 115]⟩, .string ⟨#[112, 97, 121, 45, 55]⟩, .string ⟨#[97]⟩]) := zG3
 obtain ⟨hkz, hxz, hfz⟩ := HXz.out
 clear hw
 refine (l01Pick_c (aG.get HOC.out) _ 3 3 _ _ topN (rd_strs HXz.out rfl) rfl (by omega) (by omega) (by omega)).mono ?_
 rintro e w2 ⟨y, rfl, hy, hc, hb⟩
 have hzw2 : w1.heap.size ≤ w2.heap.size := hb.size
 replace HB : Hid (Only (p) (p + 1) w w2) := lH (by first | exact HB.out.trans hb | exact only_two HB.out hb (by omega))
 replace HXz := nO HXz hb
 clear hxz hfz hkz
 obtain ⟨hkz, hxz, hfz⟩ := HXz.out
 clear hb
 have HY := lH (topN_ok y hy)
 have HC := lH hc
 clear hy hc
 go_wp2
 go_ret
 exact ⟨y, rfl, HY.out, HC.out, HB.out⟩
end
end Go.Proofs.YtoccjgcokffkbaaGreat
