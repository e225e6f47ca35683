/- Drawn texts out of a list; drawn topics. A drawn right broker: what some deeds make of a new one. DrawRight and DrawDeed: a drawn right broker, a drawn deed. big, begins: small helpers of the laws. LeavesAt. The topics of a log, rising: the plain law. Sort and Compact of strings, laid at this seat. TopicsOf of the program. Where the entries of a right log lie: the plain law. FnTopics: the walk. -/
import Derived.Test.YtoccjgcokffkbaaTp1
import Derived.Test.YtoccjgcokffkbaaTp4
import Derived.Test.YtoccjgcokffkbaaTp3
import Derived.Lib.SlicesCompact
import Derived.Test.YtoccjgcokffkbaaTp2
import Derived.Shelf.Sort.Plain
import Derived.Shelf.Slices.CompactS
import Derived.Shelf.Slices.In.SortNone
import Derived.Ground.NamesProg
import Derived.Lib.Agree
import Derived.Deep.DeepCutAuto
import Derived.Sort.Walk0
namespace Go.Proofs.Ytoccjgcokffkbaa
set_option linter.unusedVariables false
set_option linter.unusedSimpArgs false
open Go.RowKit
theorem rd_strs {w : World} {k : Nat} {cs : List Value} {xs : List ByteArray} (h : NewBox w k cs) (e : cs = strs xs) : Rd w k (k + 1) (some ⟨k, 0, none⟩) (strs xs) := fun _ =>
 ⟨k, 0, rfl, Nat.le_refl _, Nat.lt_succ_self _, h.1, fun j u hj => by rw [Nat.zero_add, ← e] at *; exact (h.2.1 j).trans hj⟩
set_option maxRecDepth 100000 in
set_option maxHeartbeats 400000 in
theorem l01Pick_c {w : World} {p n g : Nat} {B : Option Addr} {l : List Int} (h : Code w p B n g 0 p l) (A : Option Addr) (c m lo hi : Nat) (xs : List ByteArray) (hr : Rd w lo hi A (strs xs)) (hx : xs.length = m) (hm : 0 < m) (hm2 : m ≤ 1000) (hlo : p + 1 ≤ lo) :
  Calls Try.prog 46 #[.pointer (some ⟨p, 0, none⟩), .slice A m c] w fun e w' => ∃ x : ByteArray, e = .returned (.string x) ∧ x ∈ xs ∧ Code w' p B n g 0 p l ∧ Only p (p + 1) w w' := by
 have HC := Lib.hid h
 have HR := Lib.hid hr
 have HX := Lib.hid hx
 clear h hr hx
 go_enter Try.func46, Try.ntmps46
 go_wp2_with fail
 refine (l01Below_c p n g 0 p B l (m : Nat) _ HC.out (by omega) (by omega)).mono ?_
 rintro e w1 ⟨x, rfl, x0, x1, hc, ho⟩
 have HC1 := Lib.hid hc
 have HO1 := Lib.hid ho
 obtain ⟨k, rfl⟩ : ∃ k : Nat, x = k := ⟨x.toNat, by omega⟩
 obtain ⟨b, off, y, rfl, hb, hy, hcell⟩ := (HR.out.only HO1.out (by omega)).str (k := k) (by rw [HX.out]; omega)
 have HY := Lib.hid (List.mem_of_getElem? hy)
 have hI : (k : Int) < m := by omega
 clear hc ho HC hy
 go_wp2
 go_ret
 exact ⟨y, rfl, HY.out, HC1.out, HO1.out⟩
/-- the drawn topics are names -/
def topN : List ByteArray := [⟨#[110, 101, 119, 115]⟩, ⟨#[112, 97, 121, 45, 55]⟩, ⟨#[97]⟩]
theorem topN_ok : ∀ t ∈ topN, nameOk t = true := by
 intro t ht
 simp only [topN, List.mem_cons, List.not_mem_nil, or_false] at ht
 rcases ht with rfl | rfl | rfl <;> decide +kernel
set_option maxRecDepth 100000 in
set_option maxHeartbeats 400000 in
theorem l09Topic_c {w : World} {p n g : Nat} {B : Option Addr} {l : List Int} (h : Code w p B n g 0 p l) (hp : p < w.heap.size) :
  Calls Try.prog 45 #[.pointer (some ⟨p, 0, none⟩)] w fun e w' => ∃ x : ByteArray, e = .returned (.string x) ∧ nameOk x = true ∧ Code w' p B n g 0 p l ∧ Only p (p + 1) w w' := by
 have HB : Hid (Only (p) (p + 1) w w) := Only.refl _ _ _
 have HOC : Hid (CodeK w (0) (p + 1) ((B, n, g)) (l)) := Lib.hid (CodeK.mk_ h)
 clear h
 go_enter Try.func45, Try.ntmps45
 go_wp2_with fail
 refine calls_named (fun w1 hw => ?_)
 have hz1 : w.heap.size + 1 ≤ w1.heap.size := by rw [hw]; first | omega | (simp [World.setCell]; done) | (simp [World.setCell]; omega)
 have hzz1 : w.heap.size ≤ w1.heap.size := by omega
 have hbn : Below w.heap.size w w1 := by rw [hw]; exact (by ((repeat (first | ((with_reducible refine Below.alloc ?_ ?_ _); rotate_left 1; (focus (first | omega | (simp; done) | (simp; omega)))) | (with_reducible refine Below.drew ?_) | ((with_reducible refine Below.setCell ?_ ?_ _); rotate_left 1; (focus (first | omega | (simp; done) | (simp; omega)))))); exact Below.refl _ _))
 replace HB := Lib.hid (HB.out.trans (Only.of_below hbn))
 replace HOC := Lib.hid (HOC.out.below hbn)
 clear hbn
 have HXz : Hid (NewBox w1 (w.heap.size) [.string ⟨#[110, 101, 119, 115]⟩, .string ⟨#[112, 97, 121, 45, 55]⟩, .string ⟨#[97]⟩]) := by rw [Hid, hw]; exact ⟨by first | omega | (simp [World.setCell]; done) | (simp [World.setCell]; omega), fun o => by rcases o with _ | _ | _ | o <;> go_simp, fun o => by go_simp⟩
 have hxz := HXz.out.2.1
 have hfz := HXz.out.2.2
 have hkz := HXz.out.1
 clear hw
 refine (l01Pick_c (CodeK.get HOC.out) _ 3 3 _ _ topN (rd_strs HXz.out rfl) rfl (by omega) (by omega) (by omega)).mono ?_
 rintro e w2 ⟨y, rfl, hy, hc, hb⟩
 have hzw2 : w1.heap.size ≤ w2.heap.size := hb.size
 have hzzw2 : w.heap.size ≤ w2.heap.size := by omega
 replace HB : Hid (Only (p) (p + 1) w w2) := Lib.hid (by first | exact HB.out.trans hb | exact only_two HB.out hb (by omega))
 replace HXz := Lib.hid (HXz.out.only hb (by first | omega | (simp; omega)))
 clear hxz hfz hkz
 have hxz := HXz.out.2.1
 have hfz := HXz.out.2.2
 have hkz := HXz.out.1
 clear hb
 have HY := Lib.hid (topN_ok y hy)
 have HC := Lib.hid hc
 clear hy hc
 go_wp2
 go_ret
 exact ⟨y, rfl, HY.out, HC.out, HB.out⟩
end Go.Proofs.Ytoccjgcokffkbaa
namespace Go.Proofs.Ytoccjgcokffkbaa
set_option linter.unusedVariables false
set_option linter.unusedSimpArgs false
open Go.RowKit
theorem l12Seal_c (a : Bk) (m : Bm) (lo hi : Nat) (w : World) (hk : BrkK w lo hi a m) :
  Calls Try.prog 77 #[.agg #[.int .i64 m.width, .slice a.E m.es.length a.ce, .slice a.R m.rs.length a.cr, .slice a.H m.hs.length a.ch, .int .i64 (lastHd m.hs).size, .slice a.A1 (pk1 m.width m.es m.hs).length a.c1, .int .i64 (lastHd m.hs).taken, .slice a.A2 (pk2 m.width m.rs m.hs).length a.c2, .int .i64 (lastHd m.hs).num, .int .i64 (lastHd m.hs).size, .string (lastHd m.hs).root, .int .i64 (lastHd m.hs).taken, .string (lastHd m.hs).troot]] w fun e w' => ∃ (a' : Bk) (m' : Bm) (L : Option Addr) (q g : Nat) (code : Int), e = .returned (.tuple #[.agg #[.int .i64 m'.width, .slice a'.E m'.es.length a'.ce, .slice a'.R m'.rs.length a'.cr, .slice a'.H m'.hs.length a'.ch, .int .i64 (lastHd m'.hs).size, .slice a'.A1 (pk1 m'.width m'.es m'.hs).length a'.c1, .int .i64 (lastHd m'.hs).taken, .slice a'.A2 (pk2 m'.width m'.rs m'.hs).length a'.c2, .int .i64 (lastHd m'.hs).num, .int .i64 (lastHd m'.hs).size, .string (lastHd m'.hs).root, .int .i64 (lastHd m'.hs).taken, .string (lastHd m'.hs).troot], .slice L q g, .int .i64 code]) ∧ NextOk w w' m a' m' code :=
 l12SealP_c m.width a.E a.R a.H a.A1 a.A2 _ _ _ a.ce a.cr a.ch a.c1 a.c2 _ _ m.es m.rs m.hs _ _ _ lo hi w hk rfl rfl rfl rfl rfl rfl rfl rfl
theorem l12Receipt_c (a : Bk) (m : Bm) (lo hi : Nat) (r : Rcp) (w : World) (hk : BrkK w lo hi a m) (hrf : r.fits) :
  Calls Try.prog 78 #[.agg #[.int .i64 m.width, .slice a.E m.es.length a.ce, .slice a.R m.rs.length a.cr, .slice a.H m.hs.length a.ch, .int .i64 (lastHd m.hs).size, .slice a.A1 (pk1 m.width m.es m.hs).length a.c1, .int .i64 (lastHd m.hs).taken, .slice a.A2 (pk2 m.width m.rs m.hs).length a.c2, .int .i64 (lastHd m.hs).num, .int .i64 (lastHd m.hs).size, .string (lastHd m.hs).root, .int .i64 (lastHd m.hs).taken, .string (lastHd m.hs).troot], .agg #[.string r.reader, .string r.topic, .int .i64 r.index]] w fun e w' => ∃ (a' : Bk) (m' : Bm) (L : Option Addr) (q g : Nat) (code : Int), e = .returned (.tuple #[.agg #[.int .i64 m'.width, .slice a'.E m'.es.length a'.ce, .slice a'.R m'.rs.length a'.cr, .slice a'.H m'.hs.length a'.ch, .int .i64 (lastHd m'.hs).size, .slice a'.A1 (pk1 m'.width m'.es m'.hs).length a'.c1, .int .i64 (lastHd m'.hs).taken, .slice a'.A2 (pk2 m'.width m'.rs m'.hs).length a'.c2, .int .i64 (lastHd m'.hs).num, .int .i64 (lastHd m'.hs).size, .string (lastHd m'.hs).root, .int .i64 (lastHd m'.hs).taken, .string (lastHd m'.hs).troot], .slice L q g, .int .i64 code]) ∧ NextOk w w' m a' m' code :=
 l12ReceiptP_c m.width a.E a.R a.H a.A1 a.A2 _ _ _ a.ce a.cr a.ch a.c1 a.c2 _ _ m.es m.rs m.hs _ _ _ lo hi r w hk rfl rfl rfl rfl rfl rfl rfl rfl hrf
theorem l12Publish_c (a : Bk) (m : Bm) (lo hi : Nat) (t : ByteArray) (ti : Int) (k b : ByteArray) (w : World) (hk : BrkK w lo hi a m) (ht : t.size ≤ 1048576) (hti : I64 ti) (hks : k.size ≤ 1048576) (hbs : b.size ≤ 1048576) :
  Calls Try.prog 79 #[.agg #[.int .i64 m.width, .slice a.E m.es.length a.ce, .slice a.R m.rs.length a.cr, .slice a.H m.hs.length a.ch, .int .i64 (lastHd m.hs).size, .slice a.A1 (pk1 m.width m.es m.hs).length a.c1, .int .i64 (lastHd m.hs).taken, .slice a.A2 (pk2 m.width m.rs m.hs).length a.c2, .int .i64 (lastHd m.hs).num, .int .i64 (lastHd m.hs).size, .string (lastHd m.hs).root, .int .i64 (lastHd m.hs).taken, .string (lastHd m.hs).troot], .string t, .int .i64 ti, .string k, .string b] w fun e w' => ∃ (a' : Bk) (m' : Bm) (L : Option Addr) (q g : Nat) (leaf code : Int), e = .returned (.tuple #[.agg #[.int .i64 m'.width, .slice a'.E m'.es.length a'.ce, .slice a'.R m'.rs.length a'.cr, .slice a'.H m'.hs.length a'.ch, .int .i64 (lastHd m'.hs).size, .slice a'.A1 (pk1 m'.width m'.es m'.hs).length a'.c1, .int .i64 (lastHd m'.hs).taken, .slice a'.A2 (pk2 m'.width m'.rs m'.hs).length a'.c2, .int .i64 (lastHd m'.hs).num, .int .i64 (lastHd m'.hs).size, .string (lastHd m'.hs).root, .int .i64 (lastHd m'.hs).taken, .string (lastHd m'.hs).troot], .slice L q g, .int .i64 leaf, .int .i64 code]) ∧ NextOk w w' m a' m' code :=
 l12PublishP_c m.width a.E a.R a.H a.A1 a.A2 _ _ _ a.ce a.cr a.ch a.c1 a.c2 _ _ m.es m.rs m.hs _ _ _ lo hi t ti k b w hk rfl rfl rfl rfl rfl rfl rfl rfl ht hti hks hbs
theorem BrkK.setBlk {w : World} {lo hi : Nat} {a : Bk} {m : Bm} (h : BrkK w lo hi a m) {k : Nat} (hk : k < lo ∨ hi ≤ k) (o : Nat) (u : Value) : BrkK (w.setCell ⟨k, o, none⟩ u) lo hi a m := h.setCell hk u
theorem CodeK.setBlkR {w : World} {lo hi : Nat} {a : Option Addr × Nat × Nat} {l : List Int} (h : CodeK w lo hi a l) {k : Nat} (hk : k < lo ∨ hi ≤ k) (o : Nat) (u : Value) : CodeK (w.setCell ⟨k, o, none⟩ u) lo hi a l := h.setCell hk u
/-- where the drawing of a broker stands: its variables, the broker, the code -/
structure RtS (w wx : World) (p kb kr lo hi : Nat) (a : Bk) (m : Bm) (c : Option Addr × Nat × Nat) (l : List Int) : Prop where
 b : NewBox wx kb [.int .i64 m.width, .slice a.E m.es.length a.ce, .slice a.R m.rs.length a.cr, .slice a.H m.hs.length a.ch, .int .i64 (lastHd m.hs).size, .slice a.A1 (pk1 m.width m.es m.hs).length a.c1, .int .i64 (lastHd m.hs).taken, .slice a.A2 (pk2 m.width m.rs m.hs).length a.c2, .int .i64 (lastHd m.hs).num, .int .i64 (lastHd m.hs).size, .string (lastHd m.hs).root, .int .i64 (lastHd m.hs).taken, .string (lastHd m.hs).troot]
 r : NewBox wx kr [.int .i64 0, .slice none 0 0, .slice none 0 0, .slice none 0 0, .int .i64 0, .slice none 0 0, .int .i64 0, .slice none 0 0, .int .i64 0, .int .i64 0, .string ⟨#[]⟩, .int .i64 0, .string ⟨#[]⟩]
 k : BrkK wx lo hi a m
 c : CodeK wx 0 (p + 1) c l
 on : Only p (p + 1) w wx
 far : p < lo ∧ p < kb ∧ p < kr ∧ kb ≠ kr ∧ w.heap.size ≤ kb ∧ w.heap.size ≤ kr ∧ (hi ≤ kb ∨ kb < lo) ∧ kr < lo ∧ w.heap.size ≤ lo ∧ hi ≤ wx.heap.size
section
variable {w wx wy : World} {p kb kr lo hi n g : Nat} {a : Bk} {m : Bm} {c : Option Addr × Nat × Nat} {l : List Int} {B : Option Addr}
theorem RtS.below (h : RtS w wx p kb kr lo hi a m c l) (hb : Below wx.heap.size wx wy) : RtS w wy p kb kr lo hi a m c l :=
 ⟨h.b.below hb, h.r.below hb, h.k.below hb, h.c.below hb, h.on.trans (Only.of_below hb), by have := h.far; have := hb.size; omega⟩
theorem RtS.alloc (h : RtS w wx p kb kr lo hi a m c l) (o : Obj) : RtS w (wx.alloc o) p kb kr lo hi a m c l := h.below ((Below.refl _ _).alloc (Nat.le_refl _) o)
theorem RtS.drew (h : RtS w wx p kb kr lo hi a m c l) : RtS w wx.drew p kb kr lo hi a m c l := h.below (Below.refl _ _).drew
theorem RtS.next (h : RtS w wx p kb kr lo hi a m (B, n, g) l) (hc : Code wy p B n g 0 p l) (ho : Only p (p + 1) wx wy) : RtS w wy p kb kr lo hi a m (B, n, g) l :=
 ⟨h.b.only ho (by have := h.far; omega), h.r.only ho (by have := h.far; omega), h.k.only ho (by have := h.far; omega), CodeK.mk_ hc, h.on.trans ho, by have := h.far; have := ho.size; omega⟩
theorem RtS.setN (h : RtS w wx p kb kr lo hi a m c l) {kn : Nat} (hn : kn ≠ kb ∧ kn ≠ kr ∧ (kn < lo ∨ hi ≤ kn) ∧ p < kn ∧ w.heap.size ≤ kn) (o : Nat) (u : Value) : RtS w (wx.setCell ⟨kn, o, none⟩ u) p kb kr lo hi a m c l :=
 ⟨h.b.setCell hn.1 u, h.r.setCell hn.2.1 u, h.k.setCell hn.2.2.1 u, h.c.setCell (.inr (Nat.succ_le_of_lt hn.2.2.2.1)) u, only_new h.on hn.2.2.2.2 u, by simpa [World.setCell] using h.far⟩
end
theorem brk_new {w : World} {width : Int} {k : Nat} (hw : inR width 1 32 = true) (h : NewBox w k (hds [headZero width])) : BrkK w k (k + 1) ⟨none, none, some ⟨k, 0, none⟩, none, none, 0, 0, 1, 0, 0⟩ ⟨width, [], [], [headZero width]⟩ :=
 ⟨BrkParts.new hw, Rd.nil, Rd.nil, fun _ => ⟨k, 0, rfl, Nat.le_refl _, Nat.lt_succ_self _, h.1, fun j u hj => by rw [Nat.zero_add]; exact (h.2.1 j).trans hj⟩, Rd.nil, Rd.nil, Nat.le_refl _, Nat.le_refl _, Nat.le_refl _, fun _ => rfl, fun _ => rfl, (fun e => by cases e), fun _ => rfl, fun _ => rfl⟩
set_option maxRecDepth 100000 in
set_option maxHeartbeats 4000000 in
theorem brokerNewT_c (width : Int) (w : World) (hw : inR width 1 32 = true) : Calls Try.prog 76 #[.int .i64 width] w fun e w' => ∃ k9, e = .returned (.tuple #[.agg #[.int .i64 width, .slice none 0 0, .slice none 0 0, .slice (some ⟨k9, 0, none⟩) 1 1, .int .i64 0, .slice none 0 0, .int .i64 0, .slice none 0 0, .int .i64 0, .int .i64 0, .string (emptyT width), .int .i64 0, .string (emptyT width)], .bool true]) ∧ (w.heap.size ≤ k9 ∧ NewBox w' k9 (hds [headZero width])) ∧ Below w.heap.size w w' := by
 have HE := Lib.hid (fun W => specSealNew_c width W)
 rw [hw] at HE
 have HH : Hid (hds [headZero width] = [.int .i64 0, .int .i64 0, .string (emptyT width), .int .i64 0, .string (emptyT width)]) := Lib.hid rfl
 clear hw
 generalize headZero width = hz at *
 generalize emptyT width = em at *
 have HB : Hid (Below w.heap.size w w) := Below.refl _ _
 go_enter Try.func76, Try.ntmps76
 go_wp2_with fail
 refine calls_named (fun w1 hw => ?_)
 have hz1 : w.heap.size + 1 ≤ w1.heap.size := by rw [hw]; first | omega | (simp [World.setCell]; done) | (simp [World.setCell]; omega)
 have hzz1 : w.heap.size ≤ w1.heap.size := by omega
 have hbn : Below w.heap.size w w1 := by rw [hw]; exact (by ((repeat (first | ((with_reducible refine Below.alloc ?_ ?_ _); rotate_left 1; (focus (first | omega | (simp; done) | (simp; omega)))) | (with_reducible refine Below.drew ?_) | ((with_reducible refine Below.setCell ?_ ?_ _); rotate_left 1; (focus (first | omega | (simp; done) | (simp; omega)))))); exact Below.refl _ _))
 replace HB := Lib.hid (below_then HB.out hbn HB.out.size)
 clear hbn
 have HXr : Hid (NewBox w1 (w.heap.size) [.int .i64 0, .slice none 0 0, .slice none 0 0, .slice none 0 0, .int .i64 0, .slice none 0 0, .int .i64 0, .slice none 0 0, .int .i64 0, .int .i64 0, .string ⟨#[]⟩, .int .i64 0, .string ⟨#[]⟩]) := by rw [Hid, hw]; exact ⟨by first | omega | (simp [World.setCell]; done) | (simp [World.setCell]; omega), fun o => by rcases o with _ | _ | _ | _ | _ | _ | _ | _ | _ | _ | _ | _ | _ | o <;> go_simp, fun o => by go_simp⟩
 have hxr := HXr.out.2.1
 have hfr := HXr.out.2.2
 have hkr := HXr.out.1
 clear hw
 refine (HE.out _).mono ?_
 rintro e w2 ⟨rfl, hb⟩
 have hzw2 : w1.heap.size ≤ w2.heap.size := hb.size
 have hzzw2 : w.heap.size ≤ w2.heap.size := by omega
 replace HB := Lib.hid (below_then HB.out hb HB.out.size)
 replace HXr := Lib.hid (HXr.out.below hb)
 clear hxr hfr hkr
 have hxr := HXr.out.2.1
 have hfr := HXr.out.2.2
 have hkr := HXr.out.1
 clear hb
 go_wp2
 refine bodyPost_named (fun w3 hw => ?_)
 have hz3 : w2.heap.size + 2 ≤ w3.heap.size := by rw [hw]; first | omega | (simp [World.setCell]; done) | (simp [World.setCell]; omega)
 have hzz3 : w.heap.size ≤ w3.heap.size := by omega
 replace HB : Hid (Below w.heap.size w w3) := by rw [Hid, hw]; exact (by ((repeat (first | ((with_reducible refine Below.alloc ?_ ?_ _); rotate_left 1; (focus (first | omega | (simp; done) | (simp; omega)))) | (with_reducible refine Below.drew ?_) | ((with_reducible refine Below.setCell ?_ ?_ _); rotate_left 1; (focus (first | omega | (simp; done) | (simp; omega)))))); exact HB.out))
 replace HXr : Hid (NewBox w3 (w.heap.size) [.int .i64 width, .slice none 0 0, .slice none 0 0, .slice (some ⟨w2.heap.size + 1, 0, none⟩) 1 1, .int .i64 0, .slice none 0 0, .int .i64 0, .slice none 0 0, .int .i64 0, .int .i64 0, .string em, .int .i64 0, .string em]) := by rw [Hid, hw]; apply NewBox.cast; (focus ((repeat (first | (with_reducible apply NewBox.alloc) | (with_reducible apply NewBox.drew) | (with_reducible apply NewBox.set1) | ((with_reducible apply NewBox.far); (focus (first | omega | (simp; done) | (simp; omega)))))); exact HXr.out)); rfl
 clear hxr hfr hkr
 have hxr := HXr.out.2.1
 have hfr := HXr.out.2.2
 have hkr := HXr.out.1
 have HXs : Hid (NewBox w3 (w2.heap.size) [.int .i64 0, .slice none 0 0, .int .i64 0, .slice none 0 0, .int .i64 0, .int .i64 0, .string em, .int .i64 0, .string em]) := by rw [Hid, hw]; exact ⟨by first | omega | (simp [World.setCell]; done) | (simp [World.setCell]; omega), fun o => by rcases o with _ | _ | _ | _ | _ | _ | _ | _ | _ | o <;> go_simp, fun o => by go_simp⟩
 have hxs := HXs.out.2.1
 have hfs := HXs.out.2.2
 have hks := HXs.out.1
 have HXg : Hid (NewBox w3 (w2.heap.size + 1) [.int .i64 0, .int .i64 0, .string em, .int .i64 0, .string em]) := by rw [Hid, hw]; exact ⟨by first | omega | (simp [World.setCell]; done) | (simp [World.setCell]; omega), fun o => by rcases o with _ | _ | _ | _ | _ | o <;> go_simp, fun o => by go_simp⟩
 have hxg := HXg.out.2.1
 have hfg := HXg.out.2.2
 have hkg := HXg.out.1
 clear hw
 refine bodyPost_ret (v := .tuple #[.agg #[.int .i64 width, .slice none 0 0, .slice none 0 0, .slice (some ⟨w2.heap.size + 1, 0, none⟩) 1 1, .int .i64 0, .slice none 0 0, .int .i64 0, .slice none 0 0, .int .i64 0, .int .i64 0, .string em, .int .i64 0, .string em], .bool true]) (by simp [results, Try.results76, go_sem, hxr]) rfl ?_
 exact ⟨(w2.heap.size + 1), rfl, ⟨by omega, by rw [HH.out]; exact HXg.out⟩, HB.out⟩
theorem pick_size {y : ByteArray} (h : y ∈ ([⟨#[97, 110, 110]⟩, ⟨#[98, 111, 98]⟩] : List ByteArray)) : y.size ≤ 20 := by
 simp only [List.mem_cons, List.not_mem_nil, or_false] at h
 rcases h with rfl | rfl <;> decide
theorem rcp_fits {s t : ByteArray} {i : Int} (h1 : s.size ≤ 20) (h2 : t.size ≤ 20) (h3 : 0 ≤ i) (h4 : i < 1000) : Rcp.fits ⟨s, t, i⟩ := ⟨⟨by show -9223372036854775808 ≤ i; omega, by show i ≤ 9223372036854775807; omega⟩, by show s.size ≤ maxLen; unfold maxLen; omega, by show t.size ≤ maxLen; unfold maxLen; omega⟩
set_option maxRecDepth 100000 in
set_option maxHeartbeats 4000000 in
theorem l12Right_c {w : World} {p n g : Nat} {B : Option Addr} {l : List Int} (h : Code w p B n g 0 p l) (hp : p < w.heap.size) (width : Int) (hw : inR width 1 32 = true) (d : Nat) (hd : d ≤ 24) :
  Calls Try.prog 44 #[.pointer (some ⟨p, 0, none⟩), .int .i64 width, .int .i64 d] w fun e w' => ∃ (a : Bk) (m : Bm), e = .returned (.agg #[.int .i64 m.width, .slice a.E m.es.length a.ce, .slice a.R m.rs.length a.cr, .slice a.H m.hs.length a.ch, .int .i64 (lastHd m.hs).size, .slice a.A1 (pk1 m.width m.es m.hs).length a.c1, .int .i64 (lastHd m.hs).taken, .slice a.A2 (pk2 m.width m.rs m.hs).length a.c2, .int .i64 (lastHd m.hs).num, .int .i64 (lastHd m.hs).size, .string (lastHd m.hs).root, .int .i64 (lastHd m.hs).taken, .string (lastHd m.hs).troot]) ∧ (BrkK w' w.heap.size w'.heap.size a m ∧ m.width = width ∧ m.es.length ≤ d) ∧ Code w' p B n g 0 p l ∧ Only p (p + 1) w w' := by
 have HBN := Lib.hid (fun W => brokerNewT_c width W hw)
 have HWD := Lib.hid hw
 have HB : Hid (Only (p) (p + 1) w w) := Only.refl _ _ _
 have HOC : Hid (CodeK w (0) (p + 1) ((B, n, g)) (l)) := Lib.hid (CodeK.mk_ h)
 clear h hw
 go_enter Try.func44, Try.ntmps44
 go_wp2_with fail
 refine calls_named (fun w1 hw => ?_)
 have hz1 : w.heap.size + 1 ≤ w1.heap.size := by rw [hw]; first | omega | (simp [World.setCell]; done) | (simp [World.setCell]; omega)
 have hzz1 : w.heap.size ≤ w1.heap.size := by omega
 have hbn : Below w.heap.size w w1 := by rw [hw]; exact (by ((repeat (first | ((with_reducible refine Below.alloc ?_ ?_ _); rotate_left 1; (focus (first | omega | (simp; done) | (simp; omega)))) | (with_reducible refine Below.drew ?_) | ((with_reducible refine Below.setCell ?_ ?_ _); rotate_left 1; (focus (first | omega | (simp; done) | (simp; omega)))))); exact Below.refl _ _))
 replace HB := Lib.hid (HB.out.trans (Only.of_below hbn))
 replace HOC := Lib.hid (HOC.out.below hbn)
 clear hbn
 have HXr : Hid (NewBox w1 (w.heap.size) [.int .i64 0, .slice none 0 0, .slice none 0 0, .slice none 0 0, .int .i64 0, .slice none 0 0, .int .i64 0, .slice none 0 0, .int .i64 0, .int .i64 0, .string ⟨#[]⟩, .int .i64 0, .string ⟨#[]⟩]) := by rw [Hid, hw]; exact ⟨by first | omega | (simp [World.setCell]; done) | (simp [World.setCell]; omega), fun o => by rcases o with _ | _ | _ | _ | _ | _ | _ | _ | _ | _ | _ | _ | _ | o <;> go_simp, fun o => by go_simp⟩
 have hxr := HXr.out.2.1
 have hfr := HXr.out.2.2
 have hkr := HXr.out.1
 clear hw
 refine (HBN.out _).mono ?_
 rintro e w2 ⟨k9, rfl, ⟨hk9, hz9⟩, hb⟩
 have hzw2 : w1.heap.size ≤ w2.heap.size := hb.size
 have hzzw2 : w.heap.size ≤ w2.heap.size := by omega
 replace HB := Lib.hid (HB.out.trans (Only.of_below hb))
 replace HOC := Lib.hid (HOC.out.below hb)
 replace HXr := Lib.hid (HXr.out.below hb)
 clear hxr hfr hkr
 have hxr := HXr.out.2.1
 have hfr := HXr.out.2.2
 have hkr := HXr.out.1
 clear hb
 have hk9b := hz9.1
 have HZ9 := Lib.hid hz9
 clear hz9 HBN
 go_wp2
 refine wp_named (fun wl hw => ?_)
 have H0 : Hid (RtS w wl p w2.heap.size (w.heap.size) k9 (k9 + 1) ⟨none, none, some ⟨k9, 0, none⟩, none, none, 0, 0, 1, 0, 0⟩ ⟨width, [], [], [headZero width]⟩ (B, n, g) l) := by
  rw [Hid, hw]
  exact ⟨NewBox.cast (NewBox.new _ _ _) rfl, HXr.out.alloc _, (brk_new HWD.out HZ9.out).alloc _, HOC.out.alloc _, HB.out.alloc _, by omega, by omega, by omega, by omega, by omega, Nat.le_refl _, .inl (by omega), by omega, by omega, by simp; omega⟩
 clear hw HXr hxr hfr hkr HB HOC HZ9 hk9b
 go_loopw [9, 10, 11] (fun i _ _ wx => ∃ (k : Nat) (a : Bk) (m : Bm) (lo hi : Nat), k ≤ d ∧ i = .int .i64 k ∧ RtS w wx p (w2.heap.size) (w.heap.size) lo hi a m (B, n, g) l ∧ (m.width = width ∧ m.es.length ≤ k)) (fun i _ _ _ => d - (intOf i).toNat)
 case atStart => exact ⟨0, _, _, _, _, Nat.zero_le _, rfl, H0.out, rfl, Nat.zero_le _⟩
 case round =>
  clear H0 hk9 HWD
  obtain ⟨k, a, m, lo, hi, hk, rfl, hrt, hmm⟩ := hrel
  have hf0 := hrt.far
  have hz0 := hrt.on.size
  have hkB := hrt.b.1
  have H0 := Lib.hid hrt
  have HMW := Lib.hid hmm
  clear hrt hmm
  by_cases hlt : k < d
  ·have hI : (k : Int) < d := by omega
   have hxb := H0.out.b.2.1
   have hfb := H0.out.b.2.2
   have hkb := H0.out.b.1
   go_wp2_with fail
   refine calls_named (fun wa hw => ?_)
   have hza : wr.heap.size < wa.heap.size := by rw [hw]; first | omega | (simp; done) | (simp; omega)
   have N1 : Hid (NewBox wa wr.heap.size [.int .i64 m.width, .slice a.E m.es.length a.ce, .slice a.R m.rs.length a.cr, .slice a.H m.hs.length a.ch, .int .i64 (lastHd m.hs).size, .slice a.A1 (pk1 m.width m.es m.hs).length a.c1, .int .i64 (lastHd m.hs).taken, .slice a.A2 (pk2 m.width m.rs m.hs).length a.c2, .int .i64 (lastHd m.hs).num, .int .i64 (lastHd m.hs).size, .string (lastHd m.hs).root, .int .i64 (lastHd m.hs).taken, .string (lastHd m.hs).troot]) := by rw [Hid, hw]; exact ⟨by first | omega | (simp; done) | (simp; omega), fun o => by rcases o with _ | _ | _ | _ | _ | _ | _ | _ | _ | _ | _ | _ | _ | o <;> go_simp, fun o => by go_simp⟩
   have H1 : Hid (RtS w wa p (w2.heap.size) (w.heap.size) lo hi a m (B, n, g) l) := by rw [Hid, hw]; (repeat (first | (with_reducible refine RtS.alloc ?_ _) | (with_reducible refine RtS.drew ?_))); exact H0.out
   clear hw H0 hxb hfb hkb
   refine (l01Below_c p n g 0 p B l 8 _ (CodeK.get H1.out.c) (by omega) (by omega)).mono ?_
   rintro e v2 ⟨x, rfl, x0, x1, hc2, ho2⟩
   have H2 := Lib.hid (H1.out.next hc2 ho2)
   have N2 := Lib.hid (N1.out.only ho2 (by omega))
   have hs2 : wa.heap.size ≤ v2.heap.size := ho2.size
   clear hc2 ho2 H1 N1
   rcases (show x = 0 ∨ x = 1 ∨ x = 2 ∨ x = 3 ∨ 4 ≤ x by omega) with rfl | rfl | rfl | rfl | h4
   ·skip
    have hxb := H2.out.b.2.1
    have hfb := H2.out.b.2.2
    have hkb := H2.out.b.1
    have hxn := N2.out.2.1
    have hfn := N2.out.2.2
    have hkn := N2.out.1
    go_wp2_with fail
    refine (l12Seal_c a m lo hi _ H2.out.k).mono ?_
    rintro e v3 ⟨a', m', L, q9, g9, code, rfl, hnx, hb⟩
    have H3 := Lib.hid (H2.out.below hb)
    have N3 := Lib.hid (N2.out.below hb)
    have HK := Lib.hid hnx
    have hs3 := hb.size
    clear hnx hb H2 N2
    clear hxb hfb hkb
    clear hxn hfn hkn
    have hxb := H3.out.b.2.1
    have hfb := H3.out.b.2.2
    have hkb := H3.out.b.1
    have hxn := N3.out.2.1
    have hfn := N3.out.2.2
    have hkn := N3.out.1
    have hkf : wr.heap.size ≠ w2.heap.size ∧ wr.heap.size ≠ w.heap.size ∧ (wr.heap.size < lo ∨ hi ≤ wr.heap.size) ∧ p < wr.heap.size ∧ w.heap.size ≤ wr.heap.size := by have := H3.out.far; omega
    have hkl : wr.heap.size < v2.heap.size ∨ v3.heap.size ≤ wr.heap.size := by omega
    go_upto_region 17 with fail
    refine wp_named (fun wb hw => ?_)
    have hzb : v3.heap.size ≤ wb.heap.size := by rw [hw]; first | omega | (simp [World.setCell]; done) | (simp [World.setCell]; omega)
    have H90 : Hid (RtS w wb p (w2.heap.size) (w.heap.size) lo hi a m (B, n, g) l) := by rw [Hid, hw]; (repeat (first | (with_reducible refine RtS.alloc ?_ _) | (with_reducible refine RtS.drew ?_) | (with_reducible refine RtS.setN ?_ hkf _ _))); exact H3.out
    have N90 : Hid (NewBox wb wr.heap.size [.int .i64 m'.width, .slice a'.E m'.es.length a'.ce, .slice a'.R m'.rs.length a'.cr, .slice a'.H m'.hs.length a'.ch, .int .i64 (lastHd m'.hs).size, .slice a'.A1 (pk1 m'.width m'.es m'.hs).length a'.c1, .int .i64 (lastHd m'.hs).taken, .slice a'.A2 (pk2 m'.width m'.rs m'.hs).length a'.c2, .int .i64 (lastHd m'.hs).num, .int .i64 (lastHd m'.hs).size, .string (lastHd m'.hs).root, .int .i64 (lastHd m'.hs).taken, .string (lastHd m'.hs).troot]) := by rw [Hid, hw]; apply NewBox.cast; (focus ((repeat (first | (with_reducible apply NewBox.alloc) | (with_reducible apply NewBox.drew) | (with_reducible apply NewBox.set1))); exact N3.out)); rfl
    have K90 : Hid (code = 0 → BrkK wb v2.heap.size v3.heap.size a' m' ∧ m'.width = m.width ∧ m'.es.length ≤ m.es.length + 1) := by
     rw [Hid, hw]; intro hc0; obtain ⟨q1, q2, q3⟩ := HK.out hc0; refine ⟨?_, q2, q3⟩
     (repeat (first | (with_reducible refine BrkK.alloc ?_ _) | (with_reducible refine BrkK.drew ?_) | (with_reducible refine BrkK.setBlk ?_ hkl _ _))); exact q1
    clear hw HK H3 N3
    clear hxb hfb hkb
    clear hxn hfn hkn
    by_cases hc : code = 0
    ·subst hc
     obtain ⟨hbk, hmw2, hml2⟩ := K90.out rfl
     have HBK := Lib.hid hbk
     have HMW2 := Lib.hid hmw2
     clear hbk K90 hmw2
     have hxb := H90.out.b.2.1
     have hfb := H90.out.b.2.2
     have hkb := H90.out.b.1
     have hxn := N90.out.2.1
     have hfn := N90.out.2.2
     have hkn := N90.out.1
     have hf9 := H90.out.far
     have hz9 : v3.heap.size ≤ wb.heap.size := by omega
     go_wp2
     go_roundw
     case rel =>
      refine ⟨k + 1, a', m', v2.heap.size, v3.heap.size, by omega, by go_num, ⟨?_, ?_, ?_, ?_, ?_, by first | omega | (simp [World.setCell]; omega)⟩, by rw [HMW2.out]; exact HMW.out.1, by have := HMW.out.2; omega⟩
      ·apply NewBox.cast; (focus ((repeat (first | (with_reducible apply NewBox.alloc) | (with_reducible apply NewBox.drew) | (with_reducible apply NewBox.set1))); exact H90.out.b)); rfl
      ·have hne : w2.heap.size ≠ w.heap.size := by omega
       (repeat (first | (with_reducible refine NewBox.drew ?_) | (with_reducible refine NewBox.far hne _ ?_))); exact H90.out.r
      ·have hkb9 : w2.heap.size < v2.heap.size ∨ v3.heap.size ≤ w2.heap.size := by omega
       (repeat (first | (with_reducible refine BrkK.drew ?_) | (with_reducible refine BrkK.setBlk ?_ hkb9 _ _))); exact HBK.out
      ·have hkc9 : w2.heap.size < 0 ∨ p + 1 ≤ w2.heap.size := by omega
       (repeat (first | (with_reducible refine CodeK.drew ?_) | (with_reducible refine CodeK.setBlkR ?_ hkc9 _ _))); exact H90.out.c
      ·have hko9 : w.heap.size ≤ w2.heap.size := by omega
       (repeat (first | (with_reducible refine only_drew ?_) | (with_reducible refine only_new ?_ hko9 _))); exact H90.out.on
     case measure => simp [intOf]; omega
    ·have hc2 : (code == 0) = false := beq_eq_false_iff_ne.2 hc
     clear hc K90
     go_wp2
     go_roundw
     case rel => exact ⟨k + 1, a, m, lo, hi, by omega, by go_num, H90.out, HMW.out.1, by have := HMW.out.2; omega⟩
     case measure => simp [intOf]; omega
   ·skip
    have hxb := H2.out.b.2.1
    have hfb := H2.out.b.2.2
    have hkb := H2.out.b.1
    have hxn := N2.out.2.1
    have hfn := N2.out.2.2
    have hkn := N2.out.1
    go_wp2_with fail
    refine (l12Seal_c a m lo hi _ H2.out.k).mono ?_
    rintro e v3 ⟨a', m', L, q9, g9, code, rfl, hnx, hb⟩
    have H3 := Lib.hid (H2.out.below hb)
    have N3 := Lib.hid (N2.out.below hb)
    have HK := Lib.hid hnx
    have hs3 := hb.size
    clear hnx hb H2 N2
    clear hxb hfb hkb
    clear hxn hfn hkn
    have hxb := H3.out.b.2.1
    have hfb := H3.out.b.2.2
    have hkb := H3.out.b.1
    have hxn := N3.out.2.1
    have hfn := N3.out.2.2
    have hkn := N3.out.1
    have hkf : wr.heap.size ≠ w2.heap.size ∧ wr.heap.size ≠ w.heap.size ∧ (wr.heap.size < lo ∨ hi ≤ wr.heap.size) ∧ p < wr.heap.size ∧ w.heap.size ≤ wr.heap.size := by have := H3.out.far; omega
    have hkl : wr.heap.size < v2.heap.size ∨ v3.heap.size ≤ wr.heap.size := by omega
    go_upto_region 17 with fail
    refine wp_named (fun wb hw => ?_)
    have hzb : v3.heap.size ≤ wb.heap.size := by rw [hw]; first | omega | (simp [World.setCell]; done) | (simp [World.setCell]; omega)
    have H90 : Hid (RtS w wb p (w2.heap.size) (w.heap.size) lo hi a m (B, n, g) l) := by rw [Hid, hw]; (repeat (first | (with_reducible refine RtS.alloc ?_ _) | (with_reducible refine RtS.drew ?_) | (with_reducible refine RtS.setN ?_ hkf _ _))); exact H3.out
    have N90 : Hid (NewBox wb wr.heap.size [.int .i64 m'.width, .slice a'.E m'.es.length a'.ce, .slice a'.R m'.rs.length a'.cr, .slice a'.H m'.hs.length a'.ch, .int .i64 (lastHd m'.hs).size, .slice a'.A1 (pk1 m'.width m'.es m'.hs).length a'.c1, .int .i64 (lastHd m'.hs).taken, .slice a'.A2 (pk2 m'.width m'.rs m'.hs).length a'.c2, .int .i64 (lastHd m'.hs).num, .int .i64 (lastHd m'.hs).size, .string (lastHd m'.hs).root, .int .i64 (lastHd m'.hs).taken, .string (lastHd m'.hs).troot]) := by rw [Hid, hw]; apply NewBox.cast; (focus ((repeat (first | (with_reducible apply NewBox.alloc) | (with_reducible apply NewBox.drew) | (with_reducible apply NewBox.set1))); exact N3.out)); rfl
    have K90 : Hid (code = 0 → BrkK wb v2.heap.size v3.heap.size a' m' ∧ m'.width = m.width ∧ m'.es.length ≤ m.es.length + 1) := by
     rw [Hid, hw]; intro hc0; obtain ⟨q1, q2, q3⟩ := HK.out hc0; refine ⟨?_, q2, q3⟩
     (repeat (first | (with_reducible refine BrkK.alloc ?_ _) | (with_reducible refine BrkK.drew ?_) | (with_reducible refine BrkK.setBlk ?_ hkl _ _))); exact q1
    clear hw HK H3 N3
    clear hxb hfb hkb
    clear hxn hfn hkn
    by_cases hc : code = 0
    ·subst hc
     obtain ⟨hbk, hmw2, hml2⟩ := K90.out rfl
     have HBK := Lib.hid hbk
     have HMW2 := Lib.hid hmw2
     clear hbk K90 hmw2
     have hxb := H90.out.b.2.1
     have hfb := H90.out.b.2.2
     have hkb := H90.out.b.1
     have hxn := N90.out.2.1
     have hfn := N90.out.2.2
     have hkn := N90.out.1
     have hf9 := H90.out.far
     have hz9 : v3.heap.size ≤ wb.heap.size := by omega
     go_wp2
     go_roundw
     case rel =>
      refine ⟨k + 1, a', m', v2.heap.size, v3.heap.size, by omega, by go_num, ⟨?_, ?_, ?_, ?_, ?_, by first | omega | (simp [World.setCell]; omega)⟩, by rw [HMW2.out]; exact HMW.out.1, by have := HMW.out.2; omega⟩
      ·apply NewBox.cast; (focus ((repeat (first | (with_reducible apply NewBox.alloc) | (with_reducible apply NewBox.drew) | (with_reducible apply NewBox.set1))); exact H90.out.b)); rfl
      ·have hne : w2.heap.size ≠ w.heap.size := by omega
       (repeat (first | (with_reducible refine NewBox.drew ?_) | (with_reducible refine NewBox.far hne _ ?_))); exact H90.out.r
      ·have hkb9 : w2.heap.size < v2.heap.size ∨ v3.heap.size ≤ w2.heap.size := by omega
       (repeat (first | (with_reducible refine BrkK.drew ?_) | (with_reducible refine BrkK.setBlk ?_ hkb9 _ _))); exact HBK.out
      ·have hkc9 : w2.heap.size < 0 ∨ p + 1 ≤ w2.heap.size := by omega
       (repeat (first | (with_reducible refine CodeK.drew ?_) | (with_reducible refine CodeK.setBlkR ?_ hkc9 _ _))); exact H90.out.c
      ·have hko9 : w.heap.size ≤ w2.heap.size := by omega
       (repeat (first | (with_reducible refine only_drew ?_) | (with_reducible refine only_new ?_ hko9 _))); exact H90.out.on
     case measure => simp [intOf]; omega
    ·have hc2 : (code == 0) = false := beq_eq_false_iff_ne.2 hc
     clear hc K90
     go_wp2
     go_roundw
     case rel => exact ⟨k + 1, a, m, lo, hi, by omega, by go_num, H90.out, HMW.out.1, by have := HMW.out.2; omega⟩
     case measure => simp [intOf]; omega
   ·skip
    have hf2 := H2.out.far
    have hkf : wr.heap.size ≠ w2.heap.size ∧ wr.heap.size ≠ w.heap.size ∧ (wr.heap.size < lo ∨ hi ≤ wr.heap.size) ∧ p < wr.heap.size ∧ w.heap.size ≤ wr.heap.size := by omega
    have hxb := H2.out.b.2.1
    have hfb := H2.out.b.2.2
    have hkb := H2.out.b.1
    have hxn := N2.out.2.1
    have hfn := N2.out.2.2
    have hkn := N2.out.1
    go_wp2_with fail
    go_region_held3 (fun w' => ∀ o, w'.cell? ⟨w2.heap.size, o, none⟩ = [.int .i64 m.width, .slice a.E m.es.length a.ce, .slice a.R m.rs.length a.cr, .slice a.H m.hs.length a.ch, .int .i64 (lastHd m.hs).size, .slice a.A1 (pk1 m.width m.es m.hs).length a.c1, .int .i64 (lastHd m.hs).taken, .slice a.A2 (pk2 m.width m.rs m.hs).length a.c2, .int .i64 (lastHd m.hs).num, .int .i64 (lastHd m.hs).size, .string (lastHd m.hs).root, .int .i64 (lastHd m.hs).taken, .string (lastHd m.hs).troot][o]?) (first | exact (by (repeat (first | (with_reducible refine RtS.alloc ?_ _) | (with_reducible refine RtS.drew ?_) | (with_reducible refine RtS.setN ?_ hkf _ _))); exact H6.out : RtS w _ p (w2.heap.size) (w.heap.size) lo hi a m (B, n, g) l).b.2.1 | exact (by (repeat (first | (with_reducible refine RtS.alloc ?_ _) | (with_reducible refine RtS.drew ?_) | (with_reducible refine RtS.setN ?_ hkf _ _))); exact H5.out : RtS w _ p (w2.heap.size) (w.heap.size) lo hi a m (B, n, g) l).b.2.1 | exact (by (repeat (first | (with_reducible refine RtS.alloc ?_ _) | (with_reducible refine RtS.drew ?_) | (with_reducible refine RtS.setN ?_ hkf _ _))); exact H4.out : RtS w _ p (w2.heap.size) (w.heap.size) lo hi a m (B, n, g) l).b.2.1 | exact (by (repeat (first | (with_reducible refine RtS.alloc ?_ _) | (with_reducible refine RtS.drew ?_) | (with_reducible refine RtS.setN ?_ hkf _ _))); exact H3.out : RtS w _ p (w2.heap.size) (w.heap.size) lo hi a m (B, n, g) l).b.2.1 | exact (by (repeat (first | (with_reducible refine RtS.alloc ?_ _) | (with_reducible refine RtS.drew ?_) | (with_reducible refine RtS.setN ?_ hkf _ _))); exact H2.out : RtS w _ p (w2.heap.size) (w.heap.size) lo hi a m (B, n, g) l).b.2.1) (first | ((go_at_call 46; refine (l01Pick_c (CodeK.get (RtS.c (by (repeat (first | (with_reducible refine RtS.alloc ?_ _) | (with_reducible refine RtS.drew ?_))); exact H2.out : RtS w _ p (w2.heap.size) (w.heap.size) lo hi a m (B, n, g) l))) _ 2 2 _ _ [⟨#[97, 110, 110]⟩, ⟨#[98, 111, 98]⟩] (rd_strs (by first | exact NewBox.new _ #[.string ⟨#[97, 110, 110]⟩, .string ⟨#[98, 111, 98]⟩] _ | (refine NewBox.drew ?_; exact NewBox.new _ #[.string ⟨#[97, 110, 110]⟩, .string ⟨#[98, 111, 98]⟩] _)) rfl) rfl (by omega) (by omega) (by first | omega | (simp; omega))).mono ?_; rintro e v3 ⟨y3, rfl, hy3, hc3, ho3⟩; have H3 := Lib.hid (RtS.next (by (repeat (first | (with_reducible refine RtS.alloc ?_ _) | (with_reducible refine RtS.drew ?_))); exact H2.out : RtS w _ p (w2.heap.size) (w.heap.size) lo hi a m (B, n, g) l) hc3 ho3); have N3 := Lib.hid (NewBox.only (by (repeat (first | (with_reducible refine NewBox.alloc ?_ _) | (with_reducible refine NewBox.drew ?_))); exact N2.out : NewBox _ wr.heap.size [.int .i64 m.width, .slice a.E m.es.length a.ce, .slice a.R m.rs.length a.cr, .slice a.H m.hs.length a.ch, .int .i64 (lastHd m.hs).size, .slice a.A1 (pk1 m.width m.es m.hs).length a.c1, .int .i64 (lastHd m.hs).taken, .slice a.A2 (pk2 m.width m.rs m.hs).length a.c2, .int .i64 (lastHd m.hs).num, .int .i64 (lastHd m.hs).size, .string (lastHd m.hs).root, .int .i64 (lastHd m.hs).taken, .string (lastHd m.hs).troot]) ho3 (by first | omega | (simp; omega))); have hs3 : v2.heap.size ≤ v3.heap.size := Nat.le_trans (by first | exact Nat.le_refl _ | (simp; done) | (simp; omega)) ho3.size; have HY3 : Hid (y3.size ≤ 20) := Lib.hid (pick_size hy3); clear hy3; clear hc3 ho3)) | ((go_at_call 45; refine (l09Topic_c (CodeK.get (RtS.c (by (repeat (first | (with_reducible refine RtS.alloc ?_ _) | (with_reducible refine RtS.drew ?_))); exact H3.out : RtS w _ p (w2.heap.size) (w.heap.size) lo hi a m (B, n, g) l))) (by first | omega | (simp; omega))).mono ?_; rintro e v4 ⟨y4, rfl, hy4, hc4, ho4⟩; have H4 := Lib.hid (RtS.next (by (repeat (first | (with_reducible refine RtS.alloc ?_ _) | (with_reducible refine RtS.drew ?_))); exact H3.out : RtS w _ p (w2.heap.size) (w.heap.size) lo hi a m (B, n, g) l) hc4 ho4); have N4 := Lib.hid (NewBox.only (by (repeat (first | (with_reducible refine NewBox.alloc ?_ _) | (with_reducible refine NewBox.drew ?_))); exact N3.out : NewBox _ wr.heap.size [.int .i64 m.width, .slice a.E m.es.length a.ce, .slice a.R m.rs.length a.cr, .slice a.H m.hs.length a.ch, .int .i64 (lastHd m.hs).size, .slice a.A1 (pk1 m.width m.es m.hs).length a.c1, .int .i64 (lastHd m.hs).taken, .slice a.A2 (pk2 m.width m.rs m.hs).length a.c2, .int .i64 (lastHd m.hs).num, .int .i64 (lastHd m.hs).size, .string (lastHd m.hs).root, .int .i64 (lastHd m.hs).taken, .string (lastHd m.hs).troot]) ho4 (by first | omega | (simp; omega))); have hs4 : v3.heap.size ≤ v4.heap.size := Nat.le_trans (by first | exact Nat.le_refl _ | (simp; done) | (simp; omega)) ho4.size; have HY4 : Hid (y4.size ≤ 20) := Lib.hid (nameOk_size hy4); clear hy4; clear hc4 ho4)) | ((go_at_call 34; refine (l01Below_c p n g 0 p B l 3 _ (CodeK.get (RtS.c (by (repeat (first | (with_reducible refine RtS.alloc ?_ _) | (with_reducible refine RtS.drew ?_))); exact H4.out : RtS w _ p (w2.heap.size) (w.heap.size) lo hi a m (B, n, g) l))) (by omega) (by omega)).mono ?_; rintro e v5 ⟨y5, rfl, y50, y51, hc5, ho5⟩; have H5 := Lib.hid (RtS.next (by (repeat (first | (with_reducible refine RtS.alloc ?_ _) | (with_reducible refine RtS.drew ?_))); exact H4.out : RtS w _ p (w2.heap.size) (w.heap.size) lo hi a m (B, n, g) l) hc5 ho5); have N5 := Lib.hid (NewBox.only (by (repeat (first | (with_reducible refine NewBox.alloc ?_ _) | (with_reducible refine NewBox.drew ?_))); exact N4.out : NewBox _ wr.heap.size [.int .i64 m.width, .slice a.E m.es.length a.ce, .slice a.R m.rs.length a.cr, .slice a.H m.hs.length a.ch, .int .i64 (lastHd m.hs).size, .slice a.A1 (pk1 m.width m.es m.hs).length a.c1, .int .i64 (lastHd m.hs).taken, .slice a.A2 (pk2 m.width m.rs m.hs).length a.c2, .int .i64 (lastHd m.hs).num, .int .i64 (lastHd m.hs).size, .string (lastHd m.hs).root, .int .i64 (lastHd m.hs).taken, .string (lastHd m.hs).troot]) ho5 (by first | omega | (simp; omega))); have hs5 : v4.heap.size ≤ v5.heap.size := Nat.le_trans (by first | exact Nat.le_refl _ | (simp; done) | (simp; omega)) ho5.size; clear hc5 ho5)) | ((go_at_call 78; refine (l12Receipt_c a m lo hi ⟨y3, y4, y5⟩ _ (RtS.k (by (repeat (first | (with_reducible refine RtS.alloc ?_ _) | (with_reducible refine RtS.drew ?_))); exact H5.out : RtS w _ p (w2.heap.size) (w.heap.size) lo hi a m (B, n, g) l)) (rcp_fits HY3.out HY4.out (by omega) (by omega))).mono ?_; rintro e v6 ⟨a', m', L, q9, g9, code, rfl, hnx, hb⟩; have H6 := Lib.hid (RtS.below (by (repeat (first | (with_reducible refine RtS.alloc ?_ _) | (with_reducible refine RtS.drew ?_))); exact H5.out : RtS w _ p (w2.heap.size) (w.heap.size) lo hi a m (B, n, g) l) hb); have N6 := Lib.hid (NewBox.below (by (repeat (first | (with_reducible refine NewBox.alloc ?_ _) | (with_reducible refine NewBox.drew ?_))); exact N5.out : NewBox _ wr.heap.size [.int .i64 m.width, .slice a.E m.es.length a.ce, .slice a.R m.rs.length a.cr, .slice a.H m.hs.length a.ch, .int .i64 (lastHd m.hs).size, .slice a.A1 (pk1 m.width m.es m.hs).length a.c1, .int .i64 (lastHd m.hs).taken, .slice a.A2 (pk2 m.width m.rs m.hs).length a.c2, .int .i64 (lastHd m.hs).num, .int .i64 (lastHd m.hs).size, .string (lastHd m.hs).root, .int .i64 (lastHd m.hs).taken, .string (lastHd m.hs).troot]) hb); have HK := Lib.hid hnx; have hs6 := hb.size; have hyx := N6.out.2.1; have hyf := N6.out.2.2; have hyk := N6.out.1; clear hnx hb)))
    clear hyx hyf hyk hkf hf2
    have hkf : wr.heap.size ≠ w2.heap.size ∧ wr.heap.size ≠ w.heap.size ∧ (wr.heap.size < lo ∨ hi ≤ wr.heap.size) ∧ p < wr.heap.size ∧ w.heap.size ≤ wr.heap.size := by have := H6.out.far; omega
    have hkl : wr.heap.size < v5.heap.size ∨ v6.heap.size ≤ wr.heap.size := by omega
    go_upto_region 17 with fail
    refine wp_named (fun wb hw => ?_)
    have hzb : v6.heap.size ≤ wb.heap.size := by rw [hw]; first | omega | (simp [World.setCell]; done) | (simp [World.setCell]; omega)
    have H90 : Hid (RtS w wb p (w2.heap.size) (w.heap.size) lo hi a m (B, n, g) l) := by rw [Hid, hw]; (repeat (first | (with_reducible refine RtS.alloc ?_ _) | (with_reducible refine RtS.drew ?_) | (with_reducible refine RtS.setN ?_ hkf _ _))); exact H6.out
    have N90 : Hid (NewBox wb wr.heap.size [.int .i64 m'.width, .slice a'.E m'.es.length a'.ce, .slice a'.R m'.rs.length a'.cr, .slice a'.H m'.hs.length a'.ch, .int .i64 (lastHd m'.hs).size, .slice a'.A1 (pk1 m'.width m'.es m'.hs).length a'.c1, .int .i64 (lastHd m'.hs).taken, .slice a'.A2 (pk2 m'.width m'.rs m'.hs).length a'.c2, .int .i64 (lastHd m'.hs).num, .int .i64 (lastHd m'.hs).size, .string (lastHd m'.hs).root, .int .i64 (lastHd m'.hs).taken, .string (lastHd m'.hs).troot]) := by rw [Hid, hw]; apply NewBox.cast; (focus ((repeat (first | (with_reducible apply NewBox.alloc) | (with_reducible apply NewBox.drew) | (with_reducible apply NewBox.set1))); exact N6.out)); rfl
    have K90 : Hid (code = 0 → BrkK wb v5.heap.size v6.heap.size a' m' ∧ m'.width = m.width ∧ m'.es.length ≤ m.es.length + 1) := by
     rw [Hid, hw]; intro hc0; obtain ⟨q1, q2, q3⟩ := HK.out hc0; refine ⟨?_, q2, q3⟩
     (repeat (first | (with_reducible refine BrkK.alloc ?_ _) | (with_reducible refine BrkK.drew ?_) | (with_reducible refine BrkK.setBlk ?_ hkl _ _))); exact q1
    clear hw HK H6 N6
    clear hxb hfb hkb
    clear hxn hfn hkn
    by_cases hc : code = 0
    ·subst hc
     obtain ⟨hbk, hmw2, hml2⟩ := K90.out rfl
     have HBK := Lib.hid hbk
     have HMW2 := Lib.hid hmw2
     clear hbk K90 hmw2
     have hxb := H90.out.b.2.1
     have hfb := H90.out.b.2.2
     have hkb := H90.out.b.1
     have hxn := N90.out.2.1
     have hfn := N90.out.2.2
     have hkn := N90.out.1
     have hf9 := H90.out.far
     have hz9 : v6.heap.size ≤ wb.heap.size := by omega
     go_wp2
     go_roundw
     case rel =>
      refine ⟨k + 1, a', m', v5.heap.size, v6.heap.size, by omega, by go_num, ⟨?_, ?_, ?_, ?_, ?_, by first | omega | (simp [World.setCell]; omega)⟩, by rw [HMW2.out]; exact HMW.out.1, by have := HMW.out.2; omega⟩
      ·apply NewBox.cast; (focus ((repeat (first | (with_reducible apply NewBox.alloc) | (with_reducible apply NewBox.drew) | (with_reducible apply NewBox.set1))); exact H90.out.b)); rfl
      ·have hne : w2.heap.size ≠ w.heap.size := by omega
       (repeat (first | (with_reducible refine NewBox.drew ?_) | (with_reducible refine NewBox.far hne _ ?_))); exact H90.out.r
      ·have hkb9 : w2.heap.size < v5.heap.size ∨ v6.heap.size ≤ w2.heap.size := by omega
       (repeat (first | (with_reducible refine BrkK.drew ?_) | (with_reducible refine BrkK.setBlk ?_ hkb9 _ _))); exact HBK.out
      ·have hkc9 : w2.heap.size < 0 ∨ p + 1 ≤ w2.heap.size := by omega
       (repeat (first | (with_reducible refine CodeK.drew ?_) | (with_reducible refine CodeK.setBlkR ?_ hkc9 _ _))); exact H90.out.c
      ·have hko9 : w.heap.size ≤ w2.heap.size := by omega
       (repeat (first | (with_reducible refine only_drew ?_) | (with_reducible refine only_new ?_ hko9 _))); exact H90.out.on
     case measure => simp [intOf]; omega
    ·have hc2 : (code == 0) = false := beq_eq_false_iff_ne.2 hc
     clear hc K90
     go_wp2
     go_roundw
     case rel => exact ⟨k + 1, a, m, lo, hi, by omega, by go_num, H90.out, HMW.out.1, by have := HMW.out.2; omega⟩
     case measure => simp [intOf]; omega
   ·skip
    have hf2 := H2.out.far
    have hkf : wr.heap.size ≠ w2.heap.size ∧ wr.heap.size ≠ w.heap.size ∧ (wr.heap.size < lo ∨ hi ≤ wr.heap.size) ∧ p < wr.heap.size ∧ w.heap.size ≤ wr.heap.size := by omega
    have hxb := H2.out.b.2.1
    have hfb := H2.out.b.2.2
    have hkb := H2.out.b.1
    have hxn := N2.out.2.1
    have hfn := N2.out.2.2
    have hkn := N2.out.1
    go_wp2_with fail
    go_region_held3 (fun w' => ∀ o, w'.cell? ⟨w2.heap.size, o, none⟩ = [.int .i64 m.width, .slice a.E m.es.length a.ce, .slice a.R m.rs.length a.cr, .slice a.H m.hs.length a.ch, .int .i64 (lastHd m.hs).size, .slice a.A1 (pk1 m.width m.es m.hs).length a.c1, .int .i64 (lastHd m.hs).taken, .slice a.A2 (pk2 m.width m.rs m.hs).length a.c2, .int .i64 (lastHd m.hs).num, .int .i64 (lastHd m.hs).size, .string (lastHd m.hs).root, .int .i64 (lastHd m.hs).taken, .string (lastHd m.hs).troot][o]?) (first | exact (by (repeat (first | (with_reducible refine RtS.alloc ?_ _) | (with_reducible refine RtS.drew ?_) | (with_reducible refine RtS.setN ?_ hkf _ _))); exact H6.out : RtS w _ p (w2.heap.size) (w.heap.size) lo hi a m (B, n, g) l).b.2.1 | exact (by (repeat (first | (with_reducible refine RtS.alloc ?_ _) | (with_reducible refine RtS.drew ?_) | (with_reducible refine RtS.setN ?_ hkf _ _))); exact H5.out : RtS w _ p (w2.heap.size) (w.heap.size) lo hi a m (B, n, g) l).b.2.1 | exact (by (repeat (first | (with_reducible refine RtS.alloc ?_ _) | (with_reducible refine RtS.drew ?_) | (with_reducible refine RtS.setN ?_ hkf _ _))); exact H4.out : RtS w _ p (w2.heap.size) (w.heap.size) lo hi a m (B, n, g) l).b.2.1 | exact (by (repeat (first | (with_reducible refine RtS.alloc ?_ _) | (with_reducible refine RtS.drew ?_) | (with_reducible refine RtS.setN ?_ hkf _ _))); exact H3.out : RtS w _ p (w2.heap.size) (w.heap.size) lo hi a m (B, n, g) l).b.2.1 | exact (by (repeat (first | (with_reducible refine RtS.alloc ?_ _) | (with_reducible refine RtS.drew ?_) | (with_reducible refine RtS.setN ?_ hkf _ _))); exact H2.out : RtS w _ p (w2.heap.size) (w.heap.size) lo hi a m (B, n, g) l).b.2.1) (first | ((go_at_call 46; refine (l01Pick_c (CodeK.get (RtS.c (by (repeat (first | (with_reducible refine RtS.alloc ?_ _) | (with_reducible refine RtS.drew ?_))); exact H2.out : RtS w _ p (w2.heap.size) (w.heap.size) lo hi a m (B, n, g) l))) _ 2 2 _ _ [⟨#[97, 110, 110]⟩, ⟨#[98, 111, 98]⟩] (rd_strs (by first | exact NewBox.new _ #[.string ⟨#[97, 110, 110]⟩, .string ⟨#[98, 111, 98]⟩] _ | (refine NewBox.drew ?_; exact NewBox.new _ #[.string ⟨#[97, 110, 110]⟩, .string ⟨#[98, 111, 98]⟩] _)) rfl) rfl (by omega) (by omega) (by first | omega | (simp; omega))).mono ?_; rintro e v3 ⟨y3, rfl, hy3, hc3, ho3⟩; have H3 := Lib.hid (RtS.next (by (repeat (first | (with_reducible refine RtS.alloc ?_ _) | (with_reducible refine RtS.drew ?_))); exact H2.out : RtS w _ p (w2.heap.size) (w.heap.size) lo hi a m (B, n, g) l) hc3 ho3); have N3 := Lib.hid (NewBox.only (by (repeat (first | (with_reducible refine NewBox.alloc ?_ _) | (with_reducible refine NewBox.drew ?_))); exact N2.out : NewBox _ wr.heap.size [.int .i64 m.width, .slice a.E m.es.length a.ce, .slice a.R m.rs.length a.cr, .slice a.H m.hs.length a.ch, .int .i64 (lastHd m.hs).size, .slice a.A1 (pk1 m.width m.es m.hs).length a.c1, .int .i64 (lastHd m.hs).taken, .slice a.A2 (pk2 m.width m.rs m.hs).length a.c2, .int .i64 (lastHd m.hs).num, .int .i64 (lastHd m.hs).size, .string (lastHd m.hs).root, .int .i64 (lastHd m.hs).taken, .string (lastHd m.hs).troot]) ho3 (by first | omega | (simp; omega))); have hs3 : v2.heap.size ≤ v3.heap.size := Nat.le_trans (by first | exact Nat.le_refl _ | (simp; done) | (simp; omega)) ho3.size; have HY3 : Hid (y3.size ≤ 20) := Lib.hid (pick_size hy3); clear hy3; clear hc3 ho3)) | ((go_at_call 45; refine (l09Topic_c (CodeK.get (RtS.c (by (repeat (first | (with_reducible refine RtS.alloc ?_ _) | (with_reducible refine RtS.drew ?_))); exact H3.out : RtS w _ p (w2.heap.size) (w.heap.size) lo hi a m (B, n, g) l))) (by first | omega | (simp; omega))).mono ?_; rintro e v4 ⟨y4, rfl, hy4, hc4, ho4⟩; have H4 := Lib.hid (RtS.next (by (repeat (first | (with_reducible refine RtS.alloc ?_ _) | (with_reducible refine RtS.drew ?_))); exact H3.out : RtS w _ p (w2.heap.size) (w.heap.size) lo hi a m (B, n, g) l) hc4 ho4); have N4 := Lib.hid (NewBox.only (by (repeat (first | (with_reducible refine NewBox.alloc ?_ _) | (with_reducible refine NewBox.drew ?_))); exact N3.out : NewBox _ wr.heap.size [.int .i64 m.width, .slice a.E m.es.length a.ce, .slice a.R m.rs.length a.cr, .slice a.H m.hs.length a.ch, .int .i64 (lastHd m.hs).size, .slice a.A1 (pk1 m.width m.es m.hs).length a.c1, .int .i64 (lastHd m.hs).taken, .slice a.A2 (pk2 m.width m.rs m.hs).length a.c2, .int .i64 (lastHd m.hs).num, .int .i64 (lastHd m.hs).size, .string (lastHd m.hs).root, .int .i64 (lastHd m.hs).taken, .string (lastHd m.hs).troot]) ho4 (by first | omega | (simp; omega))); have hs4 : v3.heap.size ≤ v4.heap.size := Nat.le_trans (by first | exact Nat.le_refl _ | (simp; done) | (simp; omega)) ho4.size; have HY4 : Hid (y4.size ≤ 20) := Lib.hid (nameOk_size hy4); clear hy4; clear hc4 ho4)) | ((go_at_call 34; refine (l01Below_c p n g 0 p B l 3 _ (CodeK.get (RtS.c (by (repeat (first | (with_reducible refine RtS.alloc ?_ _) | (with_reducible refine RtS.drew ?_))); exact H4.out : RtS w _ p (w2.heap.size) (w.heap.size) lo hi a m (B, n, g) l))) (by omega) (by omega)).mono ?_; rintro e v5 ⟨y5, rfl, y50, y51, hc5, ho5⟩; have H5 := Lib.hid (RtS.next (by (repeat (first | (with_reducible refine RtS.alloc ?_ _) | (with_reducible refine RtS.drew ?_))); exact H4.out : RtS w _ p (w2.heap.size) (w.heap.size) lo hi a m (B, n, g) l) hc5 ho5); have N5 := Lib.hid (NewBox.only (by (repeat (first | (with_reducible refine NewBox.alloc ?_ _) | (with_reducible refine NewBox.drew ?_))); exact N4.out : NewBox _ wr.heap.size [.int .i64 m.width, .slice a.E m.es.length a.ce, .slice a.R m.rs.length a.cr, .slice a.H m.hs.length a.ch, .int .i64 (lastHd m.hs).size, .slice a.A1 (pk1 m.width m.es m.hs).length a.c1, .int .i64 (lastHd m.hs).taken, .slice a.A2 (pk2 m.width m.rs m.hs).length a.c2, .int .i64 (lastHd m.hs).num, .int .i64 (lastHd m.hs).size, .string (lastHd m.hs).root, .int .i64 (lastHd m.hs).taken, .string (lastHd m.hs).troot]) ho5 (by first | omega | (simp; omega))); have hs5 : v4.heap.size ≤ v5.heap.size := Nat.le_trans (by first | exact Nat.le_refl _ | (simp; done) | (simp; omega)) ho5.size; clear hc5 ho5)) | ((go_at_call 78; refine (l12Receipt_c a m lo hi ⟨y3, y4, y5⟩ _ (RtS.k (by (repeat (first | (with_reducible refine RtS.alloc ?_ _) | (with_reducible refine RtS.drew ?_))); exact H5.out : RtS w _ p (w2.heap.size) (w.heap.size) lo hi a m (B, n, g) l)) (rcp_fits HY3.out HY4.out (by omega) (by omega))).mono ?_; rintro e v6 ⟨a', m', L, q9, g9, code, rfl, hnx, hb⟩; have H6 := Lib.hid (RtS.below (by (repeat (first | (with_reducible refine RtS.alloc ?_ _) | (with_reducible refine RtS.drew ?_))); exact H5.out : RtS w _ p (w2.heap.size) (w.heap.size) lo hi a m (B, n, g) l) hb); have N6 := Lib.hid (NewBox.below (by (repeat (first | (with_reducible refine NewBox.alloc ?_ _) | (with_reducible refine NewBox.drew ?_))); exact N5.out : NewBox _ wr.heap.size [.int .i64 m.width, .slice a.E m.es.length a.ce, .slice a.R m.rs.length a.cr, .slice a.H m.hs.length a.ch, .int .i64 (lastHd m.hs).size, .slice a.A1 (pk1 m.width m.es m.hs).length a.c1, .int .i64 (lastHd m.hs).taken, .slice a.A2 (pk2 m.width m.rs m.hs).length a.c2, .int .i64 (lastHd m.hs).num, .int .i64 (lastHd m.hs).size, .string (lastHd m.hs).root, .int .i64 (lastHd m.hs).taken, .string (lastHd m.hs).troot]) hb); have HK := Lib.hid hnx; have hs6 := hb.size; have hyx := N6.out.2.1; have hyf := N6.out.2.2; have hyk := N6.out.1; clear hnx hb)))
    clear hyx hyf hyk hkf hf2
    have hkf : wr.heap.size ≠ w2.heap.size ∧ wr.heap.size ≠ w.heap.size ∧ (wr.heap.size < lo ∨ hi ≤ wr.heap.size) ∧ p < wr.heap.size ∧ w.heap.size ≤ wr.heap.size := by have := H6.out.far; omega
    have hkl : wr.heap.size < v5.heap.size ∨ v6.heap.size ≤ wr.heap.size := by omega
    go_upto_region 17 with fail
    refine wp_named (fun wb hw => ?_)
    have hzb : v6.heap.size ≤ wb.heap.size := by rw [hw]; first | omega | (simp [World.setCell]; done) | (simp [World.setCell]; omega)
    have H90 : Hid (RtS w wb p (w2.heap.size) (w.heap.size) lo hi a m (B, n, g) l) := by rw [Hid, hw]; (repeat (first | (with_reducible refine RtS.alloc ?_ _) | (with_reducible refine RtS.drew ?_) | (with_reducible refine RtS.setN ?_ hkf _ _))); exact H6.out
    have N90 : Hid (NewBox wb wr.heap.size [.int .i64 m'.width, .slice a'.E m'.es.length a'.ce, .slice a'.R m'.rs.length a'.cr, .slice a'.H m'.hs.length a'.ch, .int .i64 (lastHd m'.hs).size, .slice a'.A1 (pk1 m'.width m'.es m'.hs).length a'.c1, .int .i64 (lastHd m'.hs).taken, .slice a'.A2 (pk2 m'.width m'.rs m'.hs).length a'.c2, .int .i64 (lastHd m'.hs).num, .int .i64 (lastHd m'.hs).size, .string (lastHd m'.hs).root, .int .i64 (lastHd m'.hs).taken, .string (lastHd m'.hs).troot]) := by rw [Hid, hw]; apply NewBox.cast; (focus ((repeat (first | (with_reducible apply NewBox.alloc) | (with_reducible apply NewBox.drew) | (with_reducible apply NewBox.set1))); exact N6.out)); rfl
    have K90 : Hid (code = 0 → BrkK wb v5.heap.size v6.heap.size a' m' ∧ m'.width = m.width ∧ m'.es.length ≤ m.es.length + 1) := by
     rw [Hid, hw]; intro hc0; obtain ⟨q1, q2, q3⟩ := HK.out hc0; refine ⟨?_, q2, q3⟩
     (repeat (first | (with_reducible refine BrkK.alloc ?_ _) | (with_reducible refine BrkK.drew ?_) | (with_reducible refine BrkK.setBlk ?_ hkl _ _))); exact q1
    clear hw HK H6 N6
    clear hxb hfb hkb
    clear hxn hfn hkn
    by_cases hc : code = 0
    ·subst hc
     obtain ⟨hbk, hmw2, hml2⟩ := K90.out rfl
     have HBK := Lib.hid hbk
     have HMW2 := Lib.hid hmw2
     clear hbk K90 hmw2
     have hxb := H90.out.b.2.1
     have hfb := H90.out.b.2.2
     have hkb := H90.out.b.1
     have hxn := N90.out.2.1
     have hfn := N90.out.2.2
     have hkn := N90.out.1
     have hf9 := H90.out.far
     have hz9 : v6.heap.size ≤ wb.heap.size := by omega
     go_wp2
     go_roundw
     case rel =>
      refine ⟨k + 1, a', m', v5.heap.size, v6.heap.size, by omega, by go_num, ⟨?_, ?_, ?_, ?_, ?_, by first | omega | (simp [World.setCell]; omega)⟩, by rw [HMW2.out]; exact HMW.out.1, by have := HMW.out.2; omega⟩
      ·apply NewBox.cast; (focus ((repeat (first | (with_reducible apply NewBox.alloc) | (with_reducible apply NewBox.drew) | (with_reducible apply NewBox.set1))); exact H90.out.b)); rfl
      ·have hne : w2.heap.size ≠ w.heap.size := by omega
       (repeat (first | (with_reducible refine NewBox.drew ?_) | (with_reducible refine NewBox.far hne _ ?_))); exact H90.out.r
      ·have hkb9 : w2.heap.size < v5.heap.size ∨ v6.heap.size ≤ w2.heap.size := by omega
       (repeat (first | (with_reducible refine BrkK.drew ?_) | (with_reducible refine BrkK.setBlk ?_ hkb9 _ _))); exact HBK.out
      ·have hkc9 : w2.heap.size < 0 ∨ p + 1 ≤ w2.heap.size := by omega
       (repeat (first | (with_reducible refine CodeK.drew ?_) | (with_reducible refine CodeK.setBlkR ?_ hkc9 _ _))); exact H90.out.c
      ·have hko9 : w.heap.size ≤ w2.heap.size := by omega
       (repeat (first | (with_reducible refine only_drew ?_) | (with_reducible refine only_new ?_ hko9 _))); exact H90.out.on
     case measure => simp [intOf]; omega
    ·have hc2 : (code == 0) = false := beq_eq_false_iff_ne.2 hc
     clear hc K90
     go_wp2
     go_roundw
     case rel => exact ⟨k + 1, a, m, lo, hi, by omega, by go_num, H90.out, HMW.out.1, by have := HMW.out.2; omega⟩
     case measure => simp [intOf]; omega
   ·have g0 : (x == 0) = false := beq_eq_false_iff_ne.2 (by omega)
    have g1 : (x == 1) = false := beq_eq_false_iff_ne.2 (by omega)
    have g2 : (x == 2) = false := beq_eq_false_iff_ne.2 (by omega)
    have g3 : (x == 3) = false := beq_eq_false_iff_ne.2 (by omega)
    have hf2 := H2.out.far
    have hkf : wr.heap.size ≠ w2.heap.size ∧ wr.heap.size ≠ w.heap.size ∧ (wr.heap.size < lo ∨ hi ≤ wr.heap.size) ∧ p < wr.heap.size ∧ w.heap.size ≤ wr.heap.size := by omega
    have hxb := H2.out.b.2.1
    have hfb := H2.out.b.2.2
    have hkb := H2.out.b.1
    have hxn := N2.out.2.1
    have hfn := N2.out.2.2
    have hkn := N2.out.1
    go_wp2_with fail
    go_region_held3 (fun w' => ∀ o, w'.cell? ⟨w2.heap.size, o, none⟩ = [.int .i64 m.width, .slice a.E m.es.length a.ce, .slice a.R m.rs.length a.cr, .slice a.H m.hs.length a.ch, .int .i64 (lastHd m.hs).size, .slice a.A1 (pk1 m.width m.es m.hs).length a.c1, .int .i64 (lastHd m.hs).taken, .slice a.A2 (pk2 m.width m.rs m.hs).length a.c2, .int .i64 (lastHd m.hs).num, .int .i64 (lastHd m.hs).size, .string (lastHd m.hs).root, .int .i64 (lastHd m.hs).taken, .string (lastHd m.hs).troot][o]?) (first | exact (by (repeat (first | (with_reducible refine RtS.alloc ?_ _) | (with_reducible refine RtS.drew ?_) | (with_reducible refine RtS.setN ?_ hkf _ _))); exact H9.out : RtS w _ p (w2.heap.size) (w.heap.size) lo hi a m (B, n, g) l).b.2.1 | exact (by (repeat (first | (with_reducible refine RtS.alloc ?_ _) | (with_reducible refine RtS.drew ?_) | (with_reducible refine RtS.setN ?_ hkf _ _))); exact H8.out : RtS w _ p (w2.heap.size) (w.heap.size) lo hi a m (B, n, g) l).b.2.1 | exact (by (repeat (first | (with_reducible refine RtS.alloc ?_ _) | (with_reducible refine RtS.drew ?_) | (with_reducible refine RtS.setN ?_ hkf _ _))); exact H7.out : RtS w _ p (w2.heap.size) (w.heap.size) lo hi a m (B, n, g) l).b.2.1 | exact (by (repeat (first | (with_reducible refine RtS.alloc ?_ _) | (with_reducible refine RtS.drew ?_) | (with_reducible refine RtS.setN ?_ hkf _ _))); exact H6.out : RtS w _ p (w2.heap.size) (w.heap.size) lo hi a m (B, n, g) l).b.2.1 | exact (by (repeat (first | (with_reducible refine RtS.alloc ?_ _) | (with_reducible refine RtS.drew ?_) | (with_reducible refine RtS.setN ?_ hkf _ _))); exact H5.out : RtS w _ p (w2.heap.size) (w.heap.size) lo hi a m (B, n, g) l).b.2.1 | exact (by (repeat (first | (with_reducible refine RtS.alloc ?_ _) | (with_reducible refine RtS.drew ?_) | (with_reducible refine RtS.setN ?_ hkf _ _))); exact H4.out : RtS w _ p (w2.heap.size) (w.heap.size) lo hi a m (B, n, g) l).b.2.1 | exact (by (repeat (first | (with_reducible refine RtS.alloc ?_ _) | (with_reducible refine RtS.drew ?_) | (with_reducible refine RtS.setN ?_ hkf _ _))); exact H3.out : RtS w _ p (w2.heap.size) (w.heap.size) lo hi a m (B, n, g) l).b.2.1 | exact (by (repeat (first | (with_reducible refine RtS.alloc ?_ _) | (with_reducible refine RtS.drew ?_) | (with_reducible refine RtS.setN ?_ hkf _ _))); exact H2.out : RtS w _ p (w2.heap.size) (w.heap.size) lo hi a m (B, n, g) l).b.2.1) (first | ((go_at_call 45; refine (l09Topic_c (CodeK.get (RtS.c (by (repeat (first | (with_reducible refine RtS.alloc ?_ _) | (with_reducible refine RtS.drew ?_))); exact H2.out : RtS w _ p (w2.heap.size) (w.heap.size) lo hi a m (B, n, g) l))) (by first | omega | (simp; omega))).mono ?_; rintro e v3 ⟨y3, rfl, hy3, hc3, ho3⟩; have H3 := Lib.hid (RtS.next (by (repeat (first | (with_reducible refine RtS.alloc ?_ _) | (with_reducible refine RtS.drew ?_))); exact H2.out : RtS w _ p (w2.heap.size) (w.heap.size) lo hi a m (B, n, g) l) hc3 ho3); have N3 := Lib.hid (NewBox.only (by (repeat (first | (with_reducible refine NewBox.alloc ?_ _) | (with_reducible refine NewBox.drew ?_))); exact N2.out : NewBox _ wr.heap.size [.int .i64 m.width, .slice a.E m.es.length a.ce, .slice a.R m.rs.length a.cr, .slice a.H m.hs.length a.ch, .int .i64 (lastHd m.hs).size, .slice a.A1 (pk1 m.width m.es m.hs).length a.c1, .int .i64 (lastHd m.hs).taken, .slice a.A2 (pk2 m.width m.rs m.hs).length a.c2, .int .i64 (lastHd m.hs).num, .int .i64 (lastHd m.hs).size, .string (lastHd m.hs).root, .int .i64 (lastHd m.hs).taken, .string (lastHd m.hs).troot]) ho3 (by first | omega | (simp; omega))); have hs3 : v2.heap.size ≤ v3.heap.size := Nat.le_trans (by first | exact Nat.le_refl _ | (simp; done) | (simp; omega)) ho3.size; have HY3 : Hid (y3.size ≤ 20) := Lib.hid (nameOk_size hy3); clear hy3; clear hc3 ho3)) | ((go_at_call_of 34 (Value.int .i64 1000); refine (l01Below_c p n g 0 p B l 1000 _ (CodeK.get (RtS.c (by (repeat (first | (with_reducible refine RtS.alloc ?_ _) | (with_reducible refine RtS.drew ?_))); exact H3.out : RtS w _ p (w2.heap.size) (w.heap.size) lo hi a m (B, n, g) l))) (by omega) (by omega)).mono ?_; rintro e v4 ⟨y4, rfl, y40, y41, hc4, ho4⟩; have H4 := Lib.hid (RtS.next (by (repeat (first | (with_reducible refine RtS.alloc ?_ _) | (with_reducible refine RtS.drew ?_))); exact H3.out : RtS w _ p (w2.heap.size) (w.heap.size) lo hi a m (B, n, g) l) hc4 ho4); have N4 := Lib.hid (NewBox.only (by (repeat (first | (with_reducible refine NewBox.alloc ?_ _) | (with_reducible refine NewBox.drew ?_))); exact N3.out : NewBox _ wr.heap.size [.int .i64 m.width, .slice a.E m.es.length a.ce, .slice a.R m.rs.length a.cr, .slice a.H m.hs.length a.ch, .int .i64 (lastHd m.hs).size, .slice a.A1 (pk1 m.width m.es m.hs).length a.c1, .int .i64 (lastHd m.hs).taken, .slice a.A2 (pk2 m.width m.rs m.hs).length a.c2, .int .i64 (lastHd m.hs).num, .int .i64 (lastHd m.hs).size, .string (lastHd m.hs).root, .int .i64 (lastHd m.hs).taken, .string (lastHd m.hs).troot]) ho4 (by first | omega | (simp; omega))); have hs4 : v3.heap.size ≤ v4.heap.size := Nat.le_trans (by first | exact Nat.le_refl _ | (simp; done) | (simp; omega)) ho4.size; clear hc4 ho4)) | ((go_at_call_of 34 (Value.int .i64 2); refine (l01Below_c p n g 0 p B l 2 _ (CodeK.get (RtS.c (by (repeat (first | (with_reducible refine RtS.alloc ?_ _) | (with_reducible refine RtS.drew ?_))); exact H4.out : RtS w _ p (w2.heap.size) (w.heap.size) lo hi a m (B, n, g) l))) (by omega) (by omega)).mono ?_; rintro e v5 ⟨z5, rfl, z50, z51, hc5, ho5⟩; have H5 := Lib.hid (RtS.next (by (repeat (first | (with_reducible refine RtS.alloc ?_ _) | (with_reducible refine RtS.drew ?_))); exact H4.out : RtS w _ p (w2.heap.size) (w.heap.size) lo hi a m (B, n, g) l) hc5 ho5); have N5 := Lib.hid (NewBox.only (by (repeat (first | (with_reducible refine NewBox.alloc ?_ _) | (with_reducible refine NewBox.drew ?_))); exact N4.out : NewBox _ wr.heap.size [.int .i64 m.width, .slice a.E m.es.length a.ce, .slice a.R m.rs.length a.cr, .slice a.H m.hs.length a.ch, .int .i64 (lastHd m.hs).size, .slice a.A1 (pk1 m.width m.es m.hs).length a.c1, .int .i64 (lastHd m.hs).taken, .slice a.A2 (pk2 m.width m.rs m.hs).length a.c2, .int .i64 (lastHd m.hs).num, .int .i64 (lastHd m.hs).size, .string (lastHd m.hs).root, .int .i64 (lastHd m.hs).taken, .string (lastHd m.hs).troot]) ho5 (by first | omega | (simp; omega))); have hs5 : v4.heap.size ≤ v5.heap.size := Nat.le_trans (by first | exact Nat.le_refl _ | (simp; done) | (simp; omega)) ho5.size; obtain ⟨y5, rfl⟩ : ∃ y5 : Nat, z5 = y5 := ⟨z5.toNat, (by omega)⟩; clear hc5 ho5)) | ((go_at_call_of 33 (Value.int .i64 (y5 : Int)); refine (l01Text_c p n g 0 p B l y5 _ (CodeK.get (RtS.c (by (repeat (first | (with_reducible refine RtS.alloc ?_ _) | (with_reducible refine RtS.drew ?_))); exact H5.out : RtS w _ p (w2.heap.size) (w.heap.size) lo hi a m (B, n, g) l))) (by omega) (by omega)).mono ?_; rintro e v6 ⟨y6, rfl, hy6, hc6, ho6⟩; have H6 := Lib.hid (RtS.next (by (repeat (first | (with_reducible refine RtS.alloc ?_ _) | (with_reducible refine RtS.drew ?_))); exact H5.out : RtS w _ p (w2.heap.size) (w.heap.size) lo hi a m (B, n, g) l) hc6 ho6); have N6 := Lib.hid (NewBox.only (by (repeat (first | (with_reducible refine NewBox.alloc ?_ _) | (with_reducible refine NewBox.drew ?_))); exact N5.out : NewBox _ wr.heap.size [.int .i64 m.width, .slice a.E m.es.length a.ce, .slice a.R m.rs.length a.cr, .slice a.H m.hs.length a.ch, .int .i64 (lastHd m.hs).size, .slice a.A1 (pk1 m.width m.es m.hs).length a.c1, .int .i64 (lastHd m.hs).taken, .slice a.A2 (pk2 m.width m.rs m.hs).length a.c2, .int .i64 (lastHd m.hs).num, .int .i64 (lastHd m.hs).size, .string (lastHd m.hs).root, .int .i64 (lastHd m.hs).taken, .string (lastHd m.hs).troot]) ho6 (by first | omega | (simp; omega))); have hs6 : v5.heap.size ≤ v6.heap.size := Nat.le_trans (by first | exact Nat.le_refl _ | (simp; done) | (simp; omega)) ho6.size; have HY6 := Lib.hid hy6; clear hy6; clear hc6 ho6)) | ((go_at_call_of 34 (Value.int .i64 4); refine (l01Below_c p n g 0 p B l 4 _ (CodeK.get (RtS.c (by (repeat (first | (with_reducible refine RtS.alloc ?_ _) | (with_reducible refine RtS.drew ?_))); exact H6.out : RtS w _ p (w2.heap.size) (w.heap.size) lo hi a m (B, n, g) l))) (by omega) (by omega)).mono ?_; rintro e v7 ⟨z7, rfl, z70, z71, hc7, ho7⟩; have H7 := Lib.hid (RtS.next (by (repeat (first | (with_reducible refine RtS.alloc ?_ _) | (with_reducible refine RtS.drew ?_))); exact H6.out : RtS w _ p (w2.heap.size) (w.heap.size) lo hi a m (B, n, g) l) hc7 ho7); have N7 := Lib.hid (NewBox.only (by (repeat (first | (with_reducible refine NewBox.alloc ?_ _) | (with_reducible refine NewBox.drew ?_))); exact N6.out : NewBox _ wr.heap.size [.int .i64 m.width, .slice a.E m.es.length a.ce, .slice a.R m.rs.length a.cr, .slice a.H m.hs.length a.ch, .int .i64 (lastHd m.hs).size, .slice a.A1 (pk1 m.width m.es m.hs).length a.c1, .int .i64 (lastHd m.hs).taken, .slice a.A2 (pk2 m.width m.rs m.hs).length a.c2, .int .i64 (lastHd m.hs).num, .int .i64 (lastHd m.hs).size, .string (lastHd m.hs).root, .int .i64 (lastHd m.hs).taken, .string (lastHd m.hs).troot]) ho7 (by first | omega | (simp; omega))); have hs7 : v6.heap.size ≤ v7.heap.size := Nat.le_trans (by first | exact Nat.le_refl _ | (simp; done) | (simp; omega)) ho7.size; obtain ⟨y7, rfl⟩ : ∃ y7 : Nat, z7 = y7 := ⟨z7.toNat, (by omega)⟩; clear hc7 ho7)) | ((go_at_call_of 33 (Value.int .i64 (y7 : Int)); refine (l01Text_c p n g 0 p B l y7 _ (CodeK.get (RtS.c (by (repeat (first | (with_reducible refine RtS.alloc ?_ _) | (with_reducible refine RtS.drew ?_))); exact H7.out : RtS w _ p (w2.heap.size) (w.heap.size) lo hi a m (B, n, g) l))) (by omega) (by omega)).mono ?_; rintro e v8 ⟨y8, rfl, hy8, hc8, ho8⟩; have H8 := Lib.hid (RtS.next (by (repeat (first | (with_reducible refine RtS.alloc ?_ _) | (with_reducible refine RtS.drew ?_))); exact H7.out : RtS w _ p (w2.heap.size) (w.heap.size) lo hi a m (B, n, g) l) hc8 ho8); have N8 := Lib.hid (NewBox.only (by (repeat (first | (with_reducible refine NewBox.alloc ?_ _) | (with_reducible refine NewBox.drew ?_))); exact N7.out : NewBox _ wr.heap.size [.int .i64 m.width, .slice a.E m.es.length a.ce, .slice a.R m.rs.length a.cr, .slice a.H m.hs.length a.ch, .int .i64 (lastHd m.hs).size, .slice a.A1 (pk1 m.width m.es m.hs).length a.c1, .int .i64 (lastHd m.hs).taken, .slice a.A2 (pk2 m.width m.rs m.hs).length a.c2, .int .i64 (lastHd m.hs).num, .int .i64 (lastHd m.hs).size, .string (lastHd m.hs).root, .int .i64 (lastHd m.hs).taken, .string (lastHd m.hs).troot]) ho8 (by first | omega | (simp; omega))); have hs8 : v7.heap.size ≤ v8.heap.size := Nat.le_trans (by first | exact Nat.le_refl _ | (simp; done) | (simp; omega)) ho8.size; have HY8 := Lib.hid hy8; clear hy8; clear hc8 ho8)) | ((go_at_call 79; refine (l12Publish_c a m lo hi y3 y4 y6 y8 _ (RtS.k (by (repeat (first | (with_reducible refine RtS.alloc ?_ _) | (with_reducible refine RtS.drew ?_))); exact H8.out : RtS w _ p (w2.heap.size) (w.heap.size) lo hi a m (B, n, g) l)) (Nat.le_trans HY3.out (by omega)) (by constructor <;> omega) (by rw [HY6.out]; omega) (by rw [HY8.out]; omega)).mono ?_; rintro e v9 ⟨a', m', L, q9, g9, leaf, code, rfl, hnx, hb⟩; have H9 := Lib.hid (RtS.below (by (repeat (first | (with_reducible refine RtS.alloc ?_ _) | (with_reducible refine RtS.drew ?_))); exact H8.out : RtS w _ p (w2.heap.size) (w.heap.size) lo hi a m (B, n, g) l) hb); have N9 := Lib.hid (NewBox.below (by (repeat (first | (with_reducible refine NewBox.alloc ?_ _) | (with_reducible refine NewBox.drew ?_))); exact N8.out : NewBox _ wr.heap.size [.int .i64 m.width, .slice a.E m.es.length a.ce, .slice a.R m.rs.length a.cr, .slice a.H m.hs.length a.ch, .int .i64 (lastHd m.hs).size, .slice a.A1 (pk1 m.width m.es m.hs).length a.c1, .int .i64 (lastHd m.hs).taken, .slice a.A2 (pk2 m.width m.rs m.hs).length a.c2, .int .i64 (lastHd m.hs).num, .int .i64 (lastHd m.hs).size, .string (lastHd m.hs).root, .int .i64 (lastHd m.hs).taken, .string (lastHd m.hs).troot]) hb); have HK := Lib.hid hnx; have hs9 := hb.size; have hyx := N9.out.2.1; have hyf := N9.out.2.2; have hyk := N9.out.1; clear hnx hb)))
    clear hyx hyf hyk hkf hf2
    have hkf : wr.heap.size ≠ w2.heap.size ∧ wr.heap.size ≠ w.heap.size ∧ (wr.heap.size < lo ∨ hi ≤ wr.heap.size) ∧ p < wr.heap.size ∧ w.heap.size ≤ wr.heap.size := by have := H9.out.far; omega
    have hkl : wr.heap.size < v8.heap.size ∨ v9.heap.size ≤ wr.heap.size := by omega
    go_upto_region 17 with fail
    refine wp_named (fun wb hw => ?_)
    have hzb : v9.heap.size ≤ wb.heap.size := by rw [hw]; first | omega | (simp [World.setCell]; done) | (simp [World.setCell]; omega)
    have H90 : Hid (RtS w wb p (w2.heap.size) (w.heap.size) lo hi a m (B, n, g) l) := by rw [Hid, hw]; (repeat (first | (with_reducible refine RtS.alloc ?_ _) | (with_reducible refine RtS.drew ?_) | (with_reducible refine RtS.setN ?_ hkf _ _))); exact H9.out
    have N90 : Hid (NewBox wb wr.heap.size [.int .i64 m'.width, .slice a'.E m'.es.length a'.ce, .slice a'.R m'.rs.length a'.cr, .slice a'.H m'.hs.length a'.ch, .int .i64 (lastHd m'.hs).size, .slice a'.A1 (pk1 m'.width m'.es m'.hs).length a'.c1, .int .i64 (lastHd m'.hs).taken, .slice a'.A2 (pk2 m'.width m'.rs m'.hs).length a'.c2, .int .i64 (lastHd m'.hs).num, .int .i64 (lastHd m'.hs).size, .string (lastHd m'.hs).root, .int .i64 (lastHd m'.hs).taken, .string (lastHd m'.hs).troot]) := by rw [Hid, hw]; apply NewBox.cast; (focus ((repeat (first | (with_reducible apply NewBox.alloc) | (with_reducible apply NewBox.drew) | (with_reducible apply NewBox.set1))); exact N9.out)); rfl
    have K90 : Hid (code = 0 → BrkK wb v8.heap.size v9.heap.size a' m' ∧ m'.width = m.width ∧ m'.es.length ≤ m.es.length + 1) := by
     rw [Hid, hw]; intro hc0; obtain ⟨q1, q2, q3⟩ := HK.out hc0; refine ⟨?_, q2, q3⟩
     (repeat (first | (with_reducible refine BrkK.alloc ?_ _) | (with_reducible refine BrkK.drew ?_) | (with_reducible refine BrkK.setBlk ?_ hkl _ _))); exact q1
    clear hw HK H9 N9
    clear hxb hfb hkb
    clear hxn hfn hkn
    by_cases hc : code = 0
    ·subst hc
     obtain ⟨hbk, hmw2, hml2⟩ := K90.out rfl
     have HBK := Lib.hid hbk
     have HMW2 := Lib.hid hmw2
     clear hbk K90 hmw2
     have hxb := H90.out.b.2.1
     have hfb := H90.out.b.2.2
     have hkb := H90.out.b.1
     have hxn := N90.out.2.1
     have hfn := N90.out.2.2
     have hkn := N90.out.1
     have hf9 := H90.out.far
     have hz9 : v9.heap.size ≤ wb.heap.size := by omega
     go_wp2
     go_roundw
     case rel =>
      refine ⟨k + 1, a', m', v8.heap.size, v9.heap.size, by omega, by go_num, ⟨?_, ?_, ?_, ?_, ?_, by first | omega | (simp [World.setCell]; omega)⟩, by rw [HMW2.out]; exact HMW.out.1, by have := HMW.out.2; omega⟩
      ·apply NewBox.cast; (focus ((repeat (first | (with_reducible apply NewBox.alloc) | (with_reducible apply NewBox.drew) | (with_reducible apply NewBox.set1))); exact H90.out.b)); rfl
      ·have hne : w2.heap.size ≠ w.heap.size := by omega
       (repeat (first | (with_reducible refine NewBox.drew ?_) | (with_reducible refine NewBox.far hne _ ?_))); exact H90.out.r
      ·have hkb9 : w2.heap.size < v8.heap.size ∨ v9.heap.size ≤ w2.heap.size := by omega
       (repeat (first | (with_reducible refine BrkK.drew ?_) | (with_reducible refine BrkK.setBlk ?_ hkb9 _ _))); exact HBK.out
      ·have hkc9 : w2.heap.size < 0 ∨ p + 1 ≤ w2.heap.size := by omega
       (repeat (first | (with_reducible refine CodeK.drew ?_) | (with_reducible refine CodeK.setBlkR ?_ hkc9 _ _))); exact H90.out.c
      ·have hko9 : w.heap.size ≤ w2.heap.size := by omega
       (repeat (first | (with_reducible refine only_drew ?_) | (with_reducible refine only_new ?_ hko9 _))); exact H90.out.on
     case measure => simp [intOf]; omega
    ·have hc2 : (code == 0) = false := beq_eq_false_iff_ne.2 hc
     clear hc K90
     go_wp2
     go_roundw
     case rel => exact ⟨k + 1, a, m, lo, hi, by omega, by go_num, H90.out, HMW.out.1, by have := HMW.out.2; omega⟩
     case measure => simp [intOf]; omega
  ·have hI : ¬ (k : Int) < d := by omega
   have hxb := H0.out.b.2.1
   have hfb := H0.out.b.2.2
   have hkb := H0.out.b.1
   have hxr := H0.out.r.2.1
   have hfr := H0.out.r.2.2
   have hkr := H0.out.r.1
   go_wp2
   refine bodyPost_named (fun wz hw => ?_)
   have hzz : wr.heap.size ≤ wz.heap.size := by rw [hw]; first | omega | (simp [World.setCell]; done) | (simp [World.setCell]; omega)
   have HZ : Hid (NewBox wz w.heap.size [.int .i64 m.width, .slice a.E m.es.length a.ce, .slice a.R m.rs.length a.cr, .slice a.H m.hs.length a.ch, .int .i64 (lastHd m.hs).size, .slice a.A1 (pk1 m.width m.es m.hs).length a.c1, .int .i64 (lastHd m.hs).taken, .slice a.A2 (pk2 m.width m.rs m.hs).length a.c2, .int .i64 (lastHd m.hs).num, .int .i64 (lastHd m.hs).size, .string (lastHd m.hs).root, .int .i64 (lastHd m.hs).taken, .string (lastHd m.hs).troot]) := by rw [Hid, hw]; apply NewBox.cast; (focus ((repeat (first | (with_reducible apply NewBox.alloc) | (with_reducible apply NewBox.drew) | (with_reducible apply NewBox.set1))); exact H0.out.r)); rfl
   have HZK : Hid (BrkK wz lo hi a m) := by
    have hkz : w.heap.size < lo ∨ hi ≤ w.heap.size := .inl (by omega)
    rw [Hid, hw]; (repeat (first | (with_reducible refine BrkK.alloc ?_ _) | (with_reducible refine BrkK.drew ?_) | (with_reducible refine BrkK.setBlk ?_ hkz _ _))); exact H0.out.k
   have HZC : Hid (CodeK wz 0 (p + 1) (B, n, g) l) := by
    have hkz : w.heap.size < 0 ∨ p + 1 ≤ w.heap.size := .inr (by omega)
    rw [Hid, hw]; (repeat (first | (with_reducible refine CodeK.alloc ?_ _) | (with_reducible refine CodeK.drew ?_) | (with_reducible refine CodeK.setBlkR ?_ hkz _ _))); exact H0.out.c
   have HZO : Hid (Only p (p + 1) w wz) := by
    have hkz : w.heap.size ≤ w.heap.size := Nat.le_refl _
    rw [Hid, hw]; (repeat (first | (with_reducible refine only_alloc ?_ _) | (with_reducible refine only_drew ?_) | (with_reducible refine only_new ?_ hkz _))); exact H0.out.on
   clear hw hxb hfb hkb hxr hfr hkr H0
   have hxr := HZ.out.2.1
   refine bodyPost_ret (v := .agg #[.int .i64 m.width, .slice a.E m.es.length a.ce, .slice a.R m.rs.length a.cr, .slice a.H m.hs.length a.ch, .int .i64 (lastHd m.hs).size, .slice a.A1 (pk1 m.width m.es m.hs).length a.c1, .int .i64 (lastHd m.hs).taken, .slice a.A2 (pk2 m.width m.rs m.hs).length a.c2, .int .i64 (lastHd m.hs).num, .int .i64 (lastHd m.hs).size, .string (lastHd m.hs).root, .int .i64 (lastHd m.hs).taken, .string (lastHd m.hs).troot]) (by simp [results, Try.results44, go_sem, hxr]) rfl ?_
   exact ⟨a, m, rfl, ⟨HZK.out.mono (by omega) (by omega) (Nat.le_refl _), HMW.out.1, by have := HMW.out.2; omega⟩, CodeK.get HZC.out, HZO.out⟩
end Go.Proofs.Ytoccjgcokffkbaa
namespace Go.Proofs.Ytoccjgcokffkbaa
set_option linter.unusedVariables false
set_option linter.unusedSimpArgs false
open Go.RowKit
set_option maxRecDepth 100000 in
set_option maxHeartbeats 20000000 in
theorem DrawRight_c (n g : Nat) (B : Option Addr) (l : List Int) (w : World) (hr : Rd w 0 w.heap.size B (bys l)) (hl : l.length = n) (hn : n ≤ 1048576) (hb : ∀ x ∈ l, 0 ≤ x ∧ x ≤ 255) :
  Calls Try.prog 14 #[.slice B n g] w fun e w' => ∃ (a : Bk) (m : Bm), e = .returned (.agg #[.int .i64 m.width, .slice a.E m.es.length a.ce, .slice a.R m.rs.length a.cr, .slice a.H m.hs.length a.ch, .int .i64 (lastHd m.hs).size, .slice a.A1 (pk1 m.width m.es m.hs).length a.c1, .int .i64 (lastHd m.hs).taken, .slice a.A2 (pk2 m.width m.rs m.hs).length a.c2, .int .i64 (lastHd m.hs).num, .int .i64 (lastHd m.hs).size, .string (lastHd m.hs).root, .int .i64 (lastHd m.hs).taken, .string (lastHd m.hs).troot]) ∧ (BrkK w' w.heap.size w'.heap.size a m ∧ m.es.length ≤ 24) ∧ Below w.heap.size w w' := by
 have HNEW := Lib.hid (fun W (r : Rd W 0 W.heap.size B (bys l)) => l01New_c n g 0 W.heap.size B l W r hl hn hb)
 have HB : Hid (Below w.heap.size w w) := Below.refl _ _
 have HOQ : Hid (Rd w (0) (w.heap.size) (B) (bys l)) := Rd.base hr
 clear hr hl hb
 go_enter Try.func14, Try.ntmps14
 go_wp2_with fail
 refine calls_named (fun w1 hw => ?_)
 have hz1 : w.heap.size + 1 ≤ w1.heap.size := by rw [hw]; first | omega | (simp [World.setCell]; done) | (simp [World.setCell]; omega)
 have hzz1 : w.heap.size ≤ w1.heap.size := by omega
 have hbn : Below w.heap.size w w1 := by rw [hw]; exact (by ((repeat (first | ((with_reducible refine Below.alloc ?_ ?_ _); rotate_left 1; (focus (first | omega | (simp; done) | (simp; omega)))) | (with_reducible refine Below.drew ?_) | ((with_reducible refine Below.setCell ?_ ?_ _); rotate_left 1; (focus (first | omega | (simp; done) | (simp; omega)))))); exact Below.refl _ _))
 replace HB := Lib.hid (below_then HB.out hbn HB.out.size)
 replace HOQ := Lib.hid (HOQ.out.below hbn)
 clear hbn
 have HXr : Hid (NewBox w1 (w.heap.size) [.int .i64 0, .slice none 0 0, .slice none 0 0, .slice none 0 0, .int .i64 0, .slice none 0 0, .int .i64 0, .slice none 0 0, .int .i64 0, .int .i64 0, .string ⟨#[]⟩, .int .i64 0, .string ⟨#[]⟩]) := by rw [Hid, hw]; exact ⟨by first | omega | (simp [World.setCell]; done) | (simp [World.setCell]; omega), fun o => by rcases o with _ | _ | _ | _ | _ | _ | _ | _ | _ | _ | _ | _ | _ | o <;> go_simp, fun o => by go_simp⟩
 have hxr := HXr.out.2.1
 have hfr := HXr.out.2.2
 have hkr := HXr.out.1
 clear hw
 refine (HNEW.out _ HOQ.out.base).mono ?_
 rintro e w2 ⟨rfl, hcd, hpz, hb⟩
 have hzw2 : w1.heap.size ≤ w2.heap.size := hb.size
 have hzzw2 : w.heap.size ≤ w2.heap.size := by omega
 replace HB := Lib.hid (below_then HB.out hb HB.out.size)
 replace HOQ := Lib.hid (HOQ.out.below hb)
 replace HXr := Lib.hid (HXr.out.below hb)
 clear hxr hfr hkr
 have hxr := HXr.out.2.1
 have hfr := HXr.out.2.2
 have hkr := HXr.out.1
 clear hb
 have HOC : Hid (CodeK w2 (0) (w1.heap.size + 1) ((B, n, g)) (l)) := Lib.hid (CodeK.mk_ hcd)
 clear hcd HNEW
 clear HOQ
 obtain ⟨d0, hd0⟩ : ∃ d : Nat, 4 + n / 12 = d := ⟨_, rfl⟩
 have E1 : (4 : Int) + (n : Int) / 12 = (d0 : Int) := by omega
 by_cases h24 : 24 < d0
 ·have hI : (24 : Int) < (d0 : Int) := by omega
  have HRT := fun W x (hc : Code W w1.heap.size B n g 0 w1.heap.size l) (hp : w1.heap.size < W.heap.size) (x0 : 0 ≤ x) (x1 : x < 32) => l12Right_c hc hp (1 + x) (inR_true.2 ⟨by omega, by omega⟩) 24 (by omega)
  rw [show ((24 : Nat) : Int) = 24 from rfl] at HRT
  replace HRT := Lib.hid HRT
  clear hd0
  go_wp2_with fail
  refine calls_named (fun w3 hw => ?_)
  have hz3 : w2.heap.size + 0 ≤ w3.heap.size := by rw [hw]; first | omega | (simp [World.setCell]; done) | (simp [World.setCell]; omega)
  have hzz3 : w.heap.size ≤ w3.heap.size := by omega
  have hbn : Below w2.heap.size w2 w3 := by rw [hw]; exact (by ((repeat (first | ((with_reducible refine Below.alloc ?_ ?_ _); rotate_left 1; (focus (first | omega | (simp; done) | (simp; omega)))) | (with_reducible refine Below.drew ?_) | ((with_reducible refine Below.setCell ?_ ?_ _); rotate_left 1; (focus (first | omega | (simp; done) | (simp; omega)))))); exact Below.refl _ _))
  replace HB := Lib.hid (below_then HB.out hbn HB.out.size)
  replace HOC := Lib.hid (HOC.out.below hbn)
  replace HXr := Lib.hid (HXr.out.below hbn)
  clear hxr hfr hkr
  have hxr := HXr.out.2.1
  have hfr := HXr.out.2.2
  have hkr := HXr.out.1
  clear hbn
  clear hw
  refine (l01Below_c w1.heap.size n g 0 w1.heap.size B l 32 _ (CodeK.get HOC.out) (by omega) (by omega)).mono ?_
  rintro e w4 ⟨x, rfl, x0, x1, hc, hb⟩
  have hzw4 : w3.heap.size ≤ w4.heap.size := hb.size
  have hzzw4 : w.heap.size ≤ w4.heap.size := by omega
  replace HB := Lib.hid (below_only HB.out hb (by omega) HB.out.size)
  replace HXr := Lib.hid (HXr.out.only hb (by first | omega | (simp; omega)))
  clear hxr hfr hkr
  have hxr := HXr.out.2.1
  have hfr := HXr.out.2.2
  have hkr := HXr.out.1
  clear hb
  clear HOC
  have HOC : Hid (CodeK w4 (0) (w1.heap.size + 1) ((B, n, g)) (l)) := Lib.hid (CodeK.mk_ hc)
  clear hc
  go_wp2_with fail
  refine calls_named (fun w5 hw => ?_)
  have hz5 : w4.heap.size + 0 ≤ w5.heap.size := by rw [hw]; first | omega | (simp [World.setCell]; done) | (simp [World.setCell]; omega)
  have hzz5 : w.heap.size ≤ w5.heap.size := by omega
  have hbn : Below w4.heap.size w4 w5 := by rw [hw]; exact (by ((repeat (first | ((with_reducible refine Below.alloc ?_ ?_ _); rotate_left 1; (focus (first | omega | (simp; done) | (simp; omega)))) | (with_reducible refine Below.drew ?_) | ((with_reducible refine Below.setCell ?_ ?_ _); rotate_left 1; (focus (first | omega | (simp; done) | (simp; omega)))))); exact Below.refl _ _))
  replace HB := Lib.hid (below_then HB.out hbn HB.out.size)
  replace HOC := Lib.hid (HOC.out.below hbn)
  replace HXr := Lib.hid (HXr.out.below hbn)
  clear hxr hfr hkr
  have hxr := HXr.out.2.1
  have hfr := HXr.out.2.2
  have hkr := HXr.out.1
  clear hbn
  clear hw
  refine (HRT.out _ x (CodeK.get HOC.out) (by omega) x0 x1).mono ?_
  rintro e w6 ⟨a, m, rfl, ⟨hbk, hmw9, hml⟩, hc, hb⟩
  have hzw6 : w5.heap.size ≤ w6.heap.size := hb.size
  have hzzw6 : w.heap.size ≤ w6.heap.size := by omega
  replace HB := Lib.hid (below_only HB.out hb (by omega) HB.out.size)
  replace HXr := Lib.hid (HXr.out.only hb (by first | omega | (simp; omega)))
  clear hxr hfr hkr
  have hxr := HXr.out.2.1
  have hfr := HXr.out.2.2
  have hkr := HXr.out.1
  clear hb
  clear HOC
  have HOC : Hid (CodeK w6 (0) (w1.heap.size + 1) ((B, n, g)) (l)) := Lib.hid (CodeK.mk_ hc)
  clear hc
  have HOK : Hid (BrkK w6 (w5.heap.size) (w6.heap.size) (a) (m)) := Lib.hid hbk
  have HML := Lib.hid hml
  clear hbk hml hmw9
  clear HOC
  go_wp2
  refine bodyPost_named (fun w7 hw => ?_)
  have hz7 : w6.heap.size + 0 ≤ w7.heap.size := by rw [hw]; first | omega | (simp [World.setCell]; done) | (simp [World.setCell]; omega)
  have hzz7 : w.heap.size ≤ w7.heap.size := by omega
  replace HB : Hid (Below w.heap.size w w7) := by rw [Hid, hw]; exact (by ((repeat (first | ((with_reducible refine Below.alloc ?_ ?_ _); rotate_left 1; (focus (first | omega | (simp; done) | (simp; omega)))) | (with_reducible refine Below.drew ?_) | ((with_reducible refine Below.setCell ?_ ?_ _); rotate_left 1; (focus (first | omega | (simp; done) | (simp; omega)))))); exact HB.out))
  replace HOK : Hid (BrkK w7 (w5.heap.size) (w6.heap.size) (a) (m)) := by rw [Hid, hw]; (repeat (first | (with_reducible refine BrkK.alloc ?_ _) | (with_reducible refine BrkK.drew ?_) | ((with_reducible refine BrkK.setCell ?_ ?_ _); rotate_left 1; (focus (first | omega | (simp; done) | (simp; omega)))))); exact HOK.out
  replace HXr : Hid (NewBox w7 (w.heap.size) [.int .i64 m.width, .slice a.E m.es.length a.ce, .slice a.R m.rs.length a.cr, .slice a.H m.hs.length a.ch, .int .i64 (lastHd m.hs).size, .slice a.A1 (pk1 m.width m.es m.hs).length a.c1, .int .i64 (lastHd m.hs).taken, .slice a.A2 (pk2 m.width m.rs m.hs).length a.c2, .int .i64 (lastHd m.hs).num, .int .i64 (lastHd m.hs).size, .string (lastHd m.hs).root, .int .i64 (lastHd m.hs).taken, .string (lastHd m.hs).troot]) := by rw [Hid, hw]; apply NewBox.cast; (focus ((repeat (first | (with_reducible apply NewBox.alloc) | (with_reducible apply NewBox.drew) | (with_reducible apply NewBox.set1) | ((with_reducible apply NewBox.far); (focus (first | omega | (simp; done) | (simp; omega)))))); exact HXr.out)); rfl
  clear hxr hfr hkr
  have hxr := HXr.out.2.1
  have hfr := HXr.out.2.2
  have hkr := HXr.out.1
  clear hw
  refine bodyPost_ret (v := .agg #[.int .i64 m.width, .slice a.E m.es.length a.ce, .slice a.R m.rs.length a.cr, .slice a.H m.hs.length a.ch, .int .i64 (lastHd m.hs).size, .slice a.A1 (pk1 m.width m.es m.hs).length a.c1, .int .i64 (lastHd m.hs).taken, .slice a.A2 (pk2 m.width m.rs m.hs).length a.c2, .int .i64 (lastHd m.hs).num, .int .i64 (lastHd m.hs).size, .string (lastHd m.hs).root, .int .i64 (lastHd m.hs).taken, .string (lastHd m.hs).troot]) (by simp [results, Try.results14, go_sem, hxr]) rfl ?_
  exact ⟨a, m, rfl, ⟨HOK.out.mono (by omega) (by omega) (Nat.le_refl _), Nat.le_trans HML.out (by omega)⟩, HB.out⟩
 ·have hI : ¬ (24 : Int) < (d0 : Int) := by omega
  have HRT := Lib.hid (fun W x (hc : Code W w1.heap.size B n g 0 w1.heap.size l) (hp : w1.heap.size < W.heap.size) (x0 : 0 ≤ x) (x1 : x < 32) => l12Right_c hc hp (1 + x) (inR_true.2 ⟨by omega, by omega⟩) d0 (by omega))
  clear hd0
  go_wp2_with fail
  refine calls_named (fun w3 hw => ?_)
  have hz3 : w2.heap.size + 0 ≤ w3.heap.size := by rw [hw]; first | omega | (simp [World.setCell]; done) | (simp [World.setCell]; omega)
  have hzz3 : w.heap.size ≤ w3.heap.size := by omega
  have hbn : Below w2.heap.size w2 w3 := by rw [hw]; exact (by ((repeat (first | ((with_reducible refine Below.alloc ?_ ?_ _); rotate_left 1; (focus (first | omega | (simp; done) | (simp; omega)))) | (with_reducible refine Below.drew ?_) | ((with_reducible refine Below.setCell ?_ ?_ _); rotate_left 1; (focus (first | omega | (simp; done) | (simp; omega)))))); exact Below.refl _ _))
  replace HB := Lib.hid (below_then HB.out hbn HB.out.size)
  replace HOC := Lib.hid (HOC.out.below hbn)
  replace HXr := Lib.hid (HXr.out.below hbn)
  clear hxr hfr hkr
  have hxr := HXr.out.2.1
  have hfr := HXr.out.2.2
  have hkr := HXr.out.1
  clear hbn
  clear hw
  refine (l01Below_c w1.heap.size n g 0 w1.heap.size B l 32 _ (CodeK.get HOC.out) (by omega) (by omega)).mono ?_
  rintro e w4 ⟨x, rfl, x0, x1, hc, hb⟩
  have hzw4 : w3.heap.size ≤ w4.heap.size := hb.size
  have hzzw4 : w.heap.size ≤ w4.heap.size := by omega
  replace HB := Lib.hid (below_only HB.out hb (by omega) HB.out.size)
  replace HXr := Lib.hid (HXr.out.only hb (by first | omega | (simp; omega)))
  clear hxr hfr hkr
  have hxr := HXr.out.2.1
  have hfr := HXr.out.2.2
  have hkr := HXr.out.1
  clear hb
  clear HOC
  have HOC : Hid (CodeK w4 (0) (w1.heap.size + 1) ((B, n, g)) (l)) := Lib.hid (CodeK.mk_ hc)
  clear hc
  go_wp2_with fail
  refine calls_named (fun w5 hw => ?_)
  have hz5 : w4.heap.size + 0 ≤ w5.heap.size := by rw [hw]; first | omega | (simp [World.setCell]; done) | (simp [World.setCell]; omega)
  have hzz5 : w.heap.size ≤ w5.heap.size := by omega
  have hbn : Below w4.heap.size w4 w5 := by rw [hw]; exact (by ((repeat (first | ((with_reducible refine Below.alloc ?_ ?_ _); rotate_left 1; (focus (first | omega | (simp; done) | (simp; omega)))) | (with_reducible refine Below.drew ?_) | ((with_reducible refine Below.setCell ?_ ?_ _); rotate_left 1; (focus (first | omega | (simp; done) | (simp; omega)))))); exact Below.refl _ _))
  replace HB := Lib.hid (below_then HB.out hbn HB.out.size)
  replace HOC := Lib.hid (HOC.out.below hbn)
  replace HXr := Lib.hid (HXr.out.below hbn)
  clear hxr hfr hkr
  have hxr := HXr.out.2.1
  have hfr := HXr.out.2.2
  have hkr := HXr.out.1
  clear hbn
  clear hw
  refine (HRT.out _ x (CodeK.get HOC.out) (by omega) x0 x1).mono ?_
  rintro e w6 ⟨a, m, rfl, ⟨hbk, hmw9, hml⟩, hc, hb⟩
  have hzw6 : w5.heap.size ≤ w6.heap.size := hb.size
  have hzzw6 : w.heap.size ≤ w6.heap.size := by omega
  replace HB := Lib.hid (below_only HB.out hb (by omega) HB.out.size)
  replace HXr := Lib.hid (HXr.out.only hb (by first | omega | (simp; omega)))
  clear hxr hfr hkr
  have hxr := HXr.out.2.1
  have hfr := HXr.out.2.2
  have hkr := HXr.out.1
  clear hb
  clear HOC
  have HOC : Hid (CodeK w6 (0) (w1.heap.size + 1) ((B, n, g)) (l)) := Lib.hid (CodeK.mk_ hc)
  clear hc
  have HOK : Hid (BrkK w6 (w5.heap.size) (w6.heap.size) (a) (m)) := Lib.hid hbk
  have HML := Lib.hid hml
  clear hbk hml hmw9
  clear HOC
  go_wp2
  refine bodyPost_named (fun w7 hw => ?_)
  have hz7 : w6.heap.size + 0 ≤ w7.heap.size := by rw [hw]; first | omega | (simp [World.setCell]; done) | (simp [World.setCell]; omega)
  have hzz7 : w.heap.size ≤ w7.heap.size := by omega
  replace HB : Hid (Below w.heap.size w w7) := by rw [Hid, hw]; exact (by ((repeat (first | ((with_reducible refine Below.alloc ?_ ?_ _); rotate_left 1; (focus (first | omega | (simp; done) | (simp; omega)))) | (with_reducible refine Below.drew ?_) | ((with_reducible refine Below.setCell ?_ ?_ _); rotate_left 1; (focus (first | omega | (simp; done) | (simp; omega)))))); exact HB.out))
  replace HOK : Hid (BrkK w7 (w5.heap.size) (w6.heap.size) (a) (m)) := by rw [Hid, hw]; (repeat (first | (with_reducible refine BrkK.alloc ?_ _) | (with_reducible refine BrkK.drew ?_) | ((with_reducible refine BrkK.setCell ?_ ?_ _); rotate_left 1; (focus (first | omega | (simp; done) | (simp; omega)))))); exact HOK.out
  replace HXr : Hid (NewBox w7 (w.heap.size) [.int .i64 m.width, .slice a.E m.es.length a.ce, .slice a.R m.rs.length a.cr, .slice a.H m.hs.length a.ch, .int .i64 (lastHd m.hs).size, .slice a.A1 (pk1 m.width m.es m.hs).length a.c1, .int .i64 (lastHd m.hs).taken, .slice a.A2 (pk2 m.width m.rs m.hs).length a.c2, .int .i64 (lastHd m.hs).num, .int .i64 (lastHd m.hs).size, .string (lastHd m.hs).root, .int .i64 (lastHd m.hs).taken, .string (lastHd m.hs).troot]) := by rw [Hid, hw]; apply NewBox.cast; (focus ((repeat (first | (with_reducible apply NewBox.alloc) | (with_reducible apply NewBox.drew) | (with_reducible apply NewBox.set1) | ((with_reducible apply NewBox.far); (focus (first | omega | (simp; done) | (simp; omega)))))); exact HXr.out)); rfl
  clear hxr hfr hkr
  have hxr := HXr.out.2.1
  have hfr := HXr.out.2.2
  have hkr := HXr.out.1
  clear hw
  refine bodyPost_ret (v := .agg #[.int .i64 m.width, .slice a.E m.es.length a.ce, .slice a.R m.rs.length a.cr, .slice a.H m.hs.length a.ch, .int .i64 (lastHd m.hs).size, .slice a.A1 (pk1 m.width m.es m.hs).length a.c1, .int .i64 (lastHd m.hs).taken, .slice a.A2 (pk2 m.width m.rs m.hs).length a.c2, .int .i64 (lastHd m.hs).num, .int .i64 (lastHd m.hs).size, .string (lastHd m.hs).root, .int .i64 (lastHd m.hs).taken, .string (lastHd m.hs).troot]) (by simp [results, Try.results14, go_sem, hxr]) rfl ?_
  exact ⟨a, m, rfl, ⟨HOK.out.mono (by omega) (by omega) (Nat.le_refl _), Nat.le_trans HML.out (by omega)⟩, HB.out⟩
theorem DrawRightP_c (n g : Nat) (B : Option Addr) (l : List Int) (w : World) (hr : Rd w 0 w.heap.size B (bys l)) (hl : l.length = n) (hn : n ≤ 1048576) (hb : ∀ x ∈ l, 0 ≤ x ∧ x ≤ 255) :
  Calls Try.prog 14 #[.slice B n g] w fun e w' => ∃ (width : Int) (E R H A1 A2 : Option Addr) (ne nr nh ce cr ch c1 c2 m1 m2 : Nat) (es : List Ent) (rs : List Rcp) (hs : List Hd) (l1 l2 : List ByteArray) (h : Hd), e = .returned (.agg #[.int .i64 width, .slice E ne ce, .slice R nr cr, .slice H nh ch, .int .i64 h.size, .slice A1 m1 c1, .int .i64 h.taken, .slice A2 m2 c2, .int .i64 h.num, .int .i64 h.size, .string h.root, .int .i64 h.taken, .string h.troot]) ∧
   (BrkK w' w.heap.size w'.heap.size ⟨E, R, H, A1, A2, ce, cr, ch, c1, c2⟩ ⟨width, es, rs, hs⟩ ∧ es.length = ne ∧ rs.length = nr ∧ hs.length = nh ∧ pk1 width es hs = l1 ∧ pk2 width rs hs = l2 ∧ l1.length = m1 ∧ l2.length = m2 ∧ lastHd hs = h ∧ ne ≤ 24) ∧ Below w.heap.size w w' :=
 (DrawRight_c n g B l w hr hl hn hb).mono fun e w' ⟨a, m, he, ⟨hk, h24⟩, hb⟩ => ⟨m.width, a.E, a.R, a.H, a.A1, a.A2, _, _, _, a.ce, a.cr, a.ch, a.c1, a.c2, _, _, m.es, m.rs, m.hs, _, _, _, he, ⟨hk, rfl, rfl, rfl, rfl, rfl, rfl, rfl, rfl, h24⟩, hb⟩
/-- where the drawing of a deed stands -/
structure DdS (w wx : World) (p k1 k2 k3 k4 : Nat) (c1 c2 c3 c4 : List Value) (c : Option Addr × Nat × Nat) (l : List Int) : Prop where
 b1 : NewBox wx k1 c1
 b2 : NewBox wx k2 c2
 b3 : NewBox wx k3 c3
 b4 : NewBox wx k4 c4
 c : CodeK wx 0 (p + 1) c l
 on : Below w.heap.size w wx
 far : w.heap.size ≤ p ∧ (k1 < p ∨ p < k1) ∧ (k2 < p ∨ p < k2) ∧ (k3 < p ∨ p < k3) ∧ (k4 < p ∨ p < k4)
section
variable {w wx wy : World} {p k1 k2 k3 k4 n g : Nat} {c1 c2 c3 c4 : List Value} {c : Option Addr × Nat × Nat} {l : List Int} {B : Option Addr}
theorem DdS.below (h : DdS w wx p k1 k2 k3 k4 c1 c2 c3 c4 c l) (hb : Below wx.heap.size wx wy) : DdS w wy p k1 k2 k3 k4 c1 c2 c3 c4 c l :=
 ⟨h.b1.below hb, h.b2.below hb, h.b3.below hb, h.b4.below hb, h.c.below hb, below_then h.on hb h.on.size, h.far⟩
theorem DdS.alloc (h : DdS w wx p k1 k2 k3 k4 c1 c2 c3 c4 c l) (o : Obj) : DdS w (wx.alloc o) p k1 k2 k3 k4 c1 c2 c3 c4 c l := h.below ((Below.refl _ _).alloc (Nat.le_refl _) o)
theorem DdS.drew (h : DdS w wx p k1 k2 k3 k4 c1 c2 c3 c4 c l) : DdS w wx.drew p k1 k2 k3 k4 c1 c2 c3 c4 c l := h.below (Below.refl _ _).drew
theorem DdS.next (h : DdS w wx p k1 k2 k3 k4 c1 c2 c3 c4 (B, n, g) l) (hc : Code wy p B n g 0 p l) (ho : Only p (p + 1) wx wy) : DdS w wy p k1 k2 k3 k4 c1 c2 c3 c4 (B, n, g) l :=
 ⟨h.b1.only ho (by have := h.far; omega), h.b2.only ho (by have := h.far; omega), h.b3.only ho (by have := h.far; omega), h.b4.only ho (by have := h.far; omega), CodeK.mk_ hc, below_only h.on ho h.far.1 h.on.size, h.far⟩
end
end Go.Proofs.Ytoccjgcokffkbaa
namespace Go.Proofs.Ytoccjgcokffkbaa
set_option linter.unusedVariables false
set_option linter.unusedSimpArgs false
open Go.RowKit
set_option maxRecDepth 100000 in
set_option maxHeartbeats 400000 in
theorem big_c (n g : Nat) (B : Option Addr) (w : World) (hn : n ≤ maxLen) : Calls Try.prog 7 #[.slice B n g] w fun e w' => e = .returned (.bool (decide (1048576 < n))) ∧ w = w' := by
 unfold maxLen at hn
 go_enter Try.func7, Try.ntmps7
 rcases Nat.lt_or_ge 1048576 n with h | h
 ·have hI : (1048576 : Int) < n := by omega
  go_wp2
  go_ret
  exact ⟨ret_bool (by first | rfl | (rw [decide_eq_true h]; simp [h]) | simp [h]), rfl⟩
 ·have hI : ¬ (1048576 : Int) < n := by omega
  go_wp2
  go_ret
  exact ⟨ret_bool (by first | rfl | simp [h] | (rw [decide_eq_false (by omega)]; simp; omega)), rfl⟩
end Go.Proofs.Ytoccjgcokffkbaa
namespace Go.Proofs.Ytoccjgcokffkbaa
set_option linter.unusedVariables false
set_option linter.unusedSimpArgs false
open Go.RowKit
theorem ints_app (a b : List Int) : ints (a ++ b) = ints a ++ ints b := by rw [ints, ints, ints, List.map_append]
/-- the first places at which p holds, as long as there are fewer than most -/
def pickAt (p : Ent → Bool) (most : Int) (l : List Ent) : Nat → List Int
 | 0 => []
 | k + 1 => if (match l[k]? with | some e => p e | none => false) && decide (((pickAt p most l k).length : Int) < most) then pickAt p most l k ++ [(k : Int)] else pickAt p most l k
def isTF (t : ByteArray) (f : Int) (e : Ent) : Bool := (e.topic.toList == t.toList) && decide (f ≤ e.index)
def leavesAtM (l : List Ent) (t : ByteArray) (f m : Int) : List Int := if logOk l then pickAt (isTF t f) m l l.length else []
theorem pick_hit {p : Ent → Bool} {m : Int} {l : List Ent} {k : Nat} {e : Ent} (h : l[k]? = some e) (hp : p e = true) (hm : ((pickAt p m l k).length : Int) < m) : pickAt p m l (k + 1) = pickAt p m l k ++ [(k : Int)] := by
 rw [pickAt, h]; simp only [hp, Bool.true_and]; rw [if_pos (by simpa using hm)]
theorem pick_miss {p : Ent → Bool} {m : Int} {l : List Ent} {k : Nat} {e : Ent} (h : l[k]? = some e) (hp : p e = false) : pickAt p m l (k + 1) = pickAt p m l k := by
 rw [pickAt, h]; simp only [hp, Bool.false_and]; rfl
theorem pick_full {p : Ent → Bool} {m : Int} {l : List Ent} {k : Nat} (hm : m ≤ ((pickAt p m l k).length : Int)) : pickAt p m l (k + 1) = pickAt p m l k := by
 rw [pickAt, if_neg]
 simp only [Bool.and_eq_true, decide_eq_true_eq, not_and, Int.not_lt]
 exact fun _ => hm
theorem pick_full_to {p : Ent → Bool} {m : Int} {l : List Ent} {k : Nat} (hm : m ≤ ((pickAt p m l k).length : Int)) : ∀ j, pickAt p m l (k + j) = pickAt p m l k
 | 0 => rfl
 | j + 1 => by
   have ih := pick_full_to hm j
   rw [← Nat.add_assoc, pick_full (by rw [ih]; exact hm), ih]
theorem pick_len (p : Ent → Bool) (m : Int) (l : List Ent) : ∀ k, (pickAt p m l k).length ≤ k
 | 0 => Nat.le_refl _
 | k + 1 => by
   have := pick_len p m l k
   by_cases h : ((match l[k]? with | some e => p e | none => false) && decide (((pickAt p m l k).length : Int) < m)) = true
   ·rw [pickAt, if_pos h, List.length_append]; simp; omega
   ·rw [pickAt, if_neg h]; omega
set_option maxRecDepth 100000 in
set_option maxHeartbeats 400000 in
theorem implLeavesAt_c (A : Option Addr) (c lo hi n : Nat) (l : List Ent) (t : ByteArray) (f m : Int) (w : World) (hr : Rd w lo hi A (ents l)) (hn : l.length = n) (hl : n ≤ 1048576) (hf : ∀ x ∈ l, x.fits) (hmi : I64 m) :
  Calls Try.prog 30 #[.agg #[.slice A n c], .string t, .int .i64 f, .int .i64 m] w fun e w' => ∃ (A' : Option Addr) (c' : Nat), e = .returned (.slice A' (leavesAtM l t f m).length c') ∧ Own w' w.heap.size w'.heap.size A' (ints (leavesAtM l t f m)) ∧ Below w.heap.size w w' := by
 have HN := Lib.hid hn
 clear hn
 obtain ⟨hm1, hm2⟩ := hmi
 go_enter Try.func30, Try.ntmps30
 rcases (show m < 1 ∨ 1 ≤ m by omega) with h0 | h0
 ·have hnil : Hid (leavesAtM l t f m = []) := by
   rw [Hid, leavesAtM]
   split
   ·have := pick_full_to (p := isTF t f) (m := m) (l := l) (k := 0) (by simp [pickAt]; omega) l.length
    rw [Nat.zero_add] at this
    rw [this]; rfl
   ·rfl
  go_wp2
  go_ret
  exact ⟨none, 0, by rw [hnil.out]; rfl, by rw [hnil.out]; exact Own.nil, (Below.refl _ _).alloc (Nat.le_refl _) _⟩
 ·go_wp2_with fail
  refine (implLogOk_c A c _ _ n l _ (hr.alloc _) HN.out hl hf).mono ?_
  rintro e w1 ⟨rfl, hb1⟩
  have hx1 : w1.cell? ⟨w.heap.size, 0, none⟩ = some (.slice A n c) := cell_later hb1 (by go_simp)
  have hq1 : w.heap.size < w1.heap.size := by have := hb1.size; simp at this; omega
  have HB1 : Hid (Below w.heap.size w w1) := below_then ((Below.refl _ _).alloc (Nat.le_refl _) _) hb1 (by first | omega | (simp; done) | (simp; omega))
  have hr1 := hr.below HB1.out
  clear hb1 hr hf
  rcases h1 : logOk l with _ | _
  ·have hnil : Hid (leavesAtM l t f m = []) := by rw [Hid, leavesAtM, h1]; rfl
   go_wp2
   go_ret
   exact ⟨none, 0, by rw [hnil.out]; rfl, by rw [hnil.out]; exact Own.nil, HB1.out⟩
  ·have H1 := Lib.hid h1
   clear h1
   go_wp2
   go_loopw [9, 22] (fun v i wr => ∃ (k : Nat) (q : List Int) (A0 : Option Addr) (c0 : Nat), k ≤ n ∧ i = .int .i64 k ∧ pickAt (isTF t f) m l k = q ∧ v = .slice A0 q.length c0 ∧ wr.ownsRow w1.heap.size 3 1 (.slice A0 q.length c0) q.length (ints q) ∧ Below w1.heap.size w1 wr) (fun _ i _ => n - (intOf i).toNat)
   case atStart => exact ⟨0, [], none, 0, Nat.zero_le _, rfl, rfl, rfl, World.ownsRow_nil _ _ _ _, Below.refl _ _⟩
   case round =>
    obtain ⟨k, q, A0, c0, hk, rfl, hq, rfl, how, hbr⟩ := hrel
    have HBR := Lib.hid hbr
    have HOW := Lib.hid how
    have HQ := Lib.hid hq
    have hql : q.length ≤ k := by rw [← hq]; exact pick_len _ _ _ _
    have hzr : w1.heap.size ≤ wr.heap.size := hbr.size
    have hqr : w.heap.size < wr.heap.size := by omega
    have hx2 : wr.cell? ⟨w.heap.size, 0, none⟩ = some (.slice A n c) := (hbr.cell (p := ⟨w.heap.size, 0, none⟩) hq1).trans hx1
    clear how hq
    by_cases hlt : k < n
    ·obtain ⟨b, off, x, rfl, _, _, hb, hks, hcell⟩ := (hr1.below hbr).flat (f := Ent.cells) (m := 5) (fun _ => rfl) (by omega) (k := k) (by rw [HN.out]; exact hlt)
     have hc0 : wr.cell? ⟨b, off + k * 5, none⟩ = some (.string x.topic) := hcell 0 _ rfl
     have hc1 : wr.cell? ⟨b, off + k * 5 + 1, none⟩ = some (.int .i64 x.index) := hcell 1 _ rfl
     have hc2 : wr.cell? ⟨b, off + k * 5 + 2, none⟩ = some (.int .i64 x.time) := hcell 2 _ rfl
     have hc3 : wr.cell? ⟨b, off + k * 5 + 3, none⟩ = some (.string x.key) := hcell 3 _ rfl
     have hc4 : wr.cell? ⟨b, off + k * 5 + 4, none⟩ = some (.string x.body) := hcell 4 _ rfl
     have HK := Lib.hid hks
     clear hcell hks hr1 hbr
     rcases ht : (x.topic.toList == t.toList) with _ | _
     ·have HS := Lib.hid (pick_miss (m := m) HK.out (show isTF t f x = false by rw [isTF, ht, Bool.false_and]))
      go_wp2
      go_roundw
      case rel => exact ⟨k + 1, q, A0, c0, by omega, by go_num, by rw [HS.out, HQ.out], rfl, HOW.out.alloc _, HBR.out.alloc HBR.out.size _⟩
      case measure => simp [intOf]; omega
     ·rcases (show x.index < f ∨ f ≤ x.index by omega) with hy | hy
      ·have HS := Lib.hid (pick_miss (m := m) HK.out (show isTF t f x = false by rw [isTF, ht]; simp; omega))
       go_wp2
       go_roundw
       case rel => exact ⟨k + 1, q, A0, c0, by omega, by go_num, by rw [HS.out, HQ.out], rfl, HOW.out.alloc _, HBR.out.alloc HBR.out.size _⟩
       case measure => simp [intOf]; omega
      ·have hp : Hid (isTF t f x = true) := by rw [Hid, isTF, ht]; simpa using hy
       rcases (show (q.length : Int) < m ∨ m ≤ (q.length : Int) by omega) with hm | hm
       ·have HS := Lib.hid (pick_hit (m := m) HK.out hp.out (by rw [HQ.out]; exact hm))
        go_wp2_with (at_builtin; refine app1Int rfl _ _ rfl w1.heap.size _ _ _ rfl ((HOW.out.alloc _).alloc _) (wr.heap.size + 1) (k : Int) rfl (by show NewBox _ _ [Value.int .i64 (k : Int)]; exact ⟨by first | omega | (simp; done) | (simp; omega), fun o => by rcases o with _ | o <;> go_simp, fun o => by go_simp⟩) (by omega) (by first | omega | (simp; done) | (simp; omega)) ?_)
        intro v2 w2 hown2 hg2
        have hon := grown_only (((HOW.out.alloc _).alloc _)) hg2
        obtain ⟨A2, c2, rfl, _, _, _⟩ := ownsRow_slice hown2
        have HB2 : Hid (Below w1.heap.size w1 w2) := below_only ((HBR.out.alloc HBR.out.size _).alloc (by simp; omega) _) hon (Nat.le_refl _) (by have := HBR.out.size; simp; omega)
        have HO2 : Hid (w2.ownsRow w1.heap.size 3 1 (.slice A2 (q.length + 1) c2) (q.length + 1) (ints (q ++ [(k : Int)]))) := by rw [Hid, ints_app]; exact hown2
        clear hown2 hg2 hon HOW
        go_wp2
        go_roundw
        case rel => exact ⟨k + 1, q ++ [(k : Int)], A2, c2, by omega, by go_num, by rw [HS.out, HQ.out], by rw [List.length_append]; rfl, by rw [List.length_append]; exact HO2.out, HB2.out⟩
        case measure => simp [intOf]; omega
       ·have HS : Hid (pickAt (isTF t f) m l (k + 1) = pickAt (isTF t f) m l k) := pick_full (by rw [HQ.out]; exact hm)
        go_wp2
        go_roundw
        case rel => exact ⟨k + 1, q, A0, c0, by omega, by go_num, by rw [HS.out, HQ.out], rfl, HOW.out.alloc _, HBR.out.alloc HBR.out.size _⟩
        case measure => simp [intOf]; omega
    ·obtain rfl : k = n := by omega
     have e1 : Hid (leavesAtM l t f m = q) := by rw [Hid, leavesAtM, H1.out, HN.out, if_pos rfl, HQ.out]
     clear hbr hr1
     go_wp2
     go_ret
     exact ⟨A0, c0, by rw [e1.out]; rfl, by rw [e1.out]; exact (Own.of_ownsRow HOW.out).mono (by omega) (Nat.le_refl _) (Nat.le_refl _), below_then HB1.out HBR.out HB1.out.size⟩
end Go.Proofs.Ytoccjgcokffkbaa
namespace Go.Proofs.Ytoccjgcokffkbaa
set_option linter.unusedVariables false
set_option linter.unusedSimpArgs false
open Go.Lib
theorem l8_trans {a b c : List UInt8} (h : a < b) (k : b < c) : a < c := List.lt_trans h k
theorem l8_lt {a b : List UInt8} (h : a ≤ b) (k : a ≠ b) : a < b := by
 rcases Decidable.em (a < b) with h1 | h1
 ·exact h1
 ·exact absurd (List.le_antisymm h (List.not_lt.1 h1)) k
theorem l8_irr (a : List UInt8) : ¬ a < a := List.lt_irrefl a
theorem compUp_spec (d : Array (List UInt8)) (hd : ∀ i j, i ≤ j → j < d.size → d[i]! ≤ d[j]!) : ∀ m, m ≤ d.size →
  (∀ x, x ∈ compactUpTo d m ↔ ∃ j, j < m ∧ d[j]! = x) ∧ (compactUpTo d m).Pairwise (· < ·)
 | 0, _ => ⟨fun x => by simp [compactUpTo], by simp [compactUpTo]⟩
 | m + 1, h => by
   obtain ⟨h1, h2⟩ := compUp_spec d hd m (by omega)
   rw [compactUpTo_succ]
   rcases hk : keeps d m with _ | _
   ·simp only [Bool.false_eq_true, if_false, List.append_nil]
    refine ⟨fun x => ⟨fun hx => ?_, fun ⟨j, hj, hx⟩ => ?_⟩, h2⟩
    ·obtain ⟨j, hj, hx⟩ := (h1 x).1 hx; exact ⟨j, by omega, hx⟩
    ·rcases Nat.lt_or_ge j m with hjm | hjm
     ·exact (h1 x).2 ⟨j, hjm, hx⟩
     ·obtain rfl : j = m := by omega
      simp only [keeps, decide_eq_false_iff_not, not_or] at hk
      refine (h1 x).2 ⟨j - 1, by omega, ?_⟩
      rw [← hx]; exact (Classical.not_not.1 hk.2).symm
   ·simp only [if_true]
    refine ⟨fun x => ⟨fun hx => ?_, fun ⟨j, hj, hx⟩ => ?_⟩, ?_⟩
    ·rcases List.mem_append.1 hx with hx | hx
     ·obtain ⟨j, hj, hx⟩ := (h1 x).1 hx; exact ⟨j, by omega, hx⟩
     ·exact ⟨m, by omega, (List.mem_singleton.1 hx).symm⟩
    ·rcases Nat.lt_or_ge j m with hjm | hjm
     ·exact List.mem_append_left _ ((h1 x).2 ⟨j, hjm, hx⟩)
     ·obtain rfl : j = m := by omega
      exact List.mem_append_right _ (List.mem_singleton.2 hx.symm)
    ·rw [List.pairwise_append]
     refine ⟨h2, List.pairwise_singleton _ _, fun a ha b hb => ?_⟩
     rw [List.mem_singleton.1 hb]
     obtain ⟨j, hj, rfl⟩ := (h1 a).1 ha
     simp only [keeps, decide_eq_true_eq] at hk
     have h3 : d[m - 1]! < d[m]! := l8_lt (hd (m - 1) m (by omega) (by omega)) (fun e => by rcases hk with hk | hk; omega; exact hk e.symm)
     rcases Nat.lt_or_ge j (m - 1) with h4 | h4
     ·rcases Decidable.em (d[j]! = d[m - 1]!) with e | e
      ·rw [e]; exact h3
      ·exact l8_trans (l8_lt (hd j (m - 1) (by omega) (by omega)) e) h3
     ·obtain rfl : j = m - 1 := by omega
      exact h3
def topS (zs : List (List UInt8)) : List (List UInt8) := compact (zs.mergeSort fun x y => decide (x ≤ y))
theorem topS_spec (zs : List (List UInt8)) : (∀ x, x ∈ topS zs ↔ x ∈ zs) ∧ (topS zs).Pairwise (· < ·) := by
 have hs := List.pairwise_mergeSort (le := fun x y : List UInt8 => decide (x ≤ y)) (fun a b c h1 h2 => by simp at *; exact List.le_trans h1 h2) (fun a b => by simp; exact List.le_total a b) zs
 have hm := fun x => List.mem_mergeSort (le := fun x y : List UInt8 => decide (x ≤ y)) (l := zs) (a := x)
 unfold topS compact
 generalize zs.mergeSort (fun x y => decide (x ≤ y)) = ys at *
 have hd : ∀ i j, i ≤ j → j < ys.toArray.size → ys.toArray[i]! ≤ ys.toArray[j]! := by
  intro i j hij hj
  have hj' : j < ys.length := by simpa using hj
  rw [getElem!_pos ys.toArray i (by simp; omega), getElem!_pos ys.toArray j (by simp; omega)]
  rcases Nat.lt_or_ge i j with h | h
  ·have := List.pairwise_iff_getElem.1 hs i j (by omega) hj' h
   simpa using this
  ·obtain rfl : i = j := by omega
   exact List.le_refl _
 obtain ⟨h1, h2⟩ := compUp_spec ys.toArray hd ys.length (by simp)
 refine ⟨fun x => ?_, h2⟩
 rw [h1, ← hm]
 constructor
 ·rintro ⟨j, hj, rfl⟩
  rw [getElem!_pos ys.toArray j (by simp; omega)]
  simp
 ·intro hx
  obtain ⟨j, hj, rfl⟩ := List.mem_iff_getElem.1 hx
  exact ⟨j, hj, by rw [getElem!_pos ys.toArray j (by simp; omega)]; simp⟩
/-- a topic behind the first k of a rising row -/
def Above (S : List (List UInt8)) (k : Nat) (t : List UInt8) : Prop := k = 0 ∨ ∃ s, S[k - 1]? = some s ∧ s < t
theorem above_at {S : List (List UInt8)} (hp : S.Pairwise (· < ·)) {k j : Nat} (hk : k ≤ S.length) (hj : j < S.length) : Above S k S[j] ↔ k ≤ j := by
 constructor
 ·rintro (h | ⟨s, h, h1⟩)
  ·omega
  ·obtain ⟨hl, rfl⟩ := List.getElem?_eq_some_iff.1 h
   rcases Nat.lt_or_ge j k with hjk | hjk
   ·exfalso
    rcases Nat.lt_or_ge j (k - 1) with h2 | h2
    ·have h3 := List.pairwise_iff_getElem.1 hp j (k - 1) hj hl h2
     exact l8_irr _ (l8_trans h1 h3)
    ·have e : k - 1 = j := by omega
     simp only [e] at h1
     exact l8_irr _ h1
   ·exact hjk
 ·intro h
  rcases Nat.eq_zero_or_pos k with h0 | h0
  ·exact .inl h0
  ·exact .inr ⟨S[k - 1], List.getElem?_eq_getElem (by omega), List.pairwise_iff_getElem.1 hp (k - 1) j (by omega) hj (by omega)⟩
theorem top_end {ts : List (List UInt8)} {k : Nat} (hk : k ≤ (topS ts).length) (h : ∀ t ∈ ts, ¬ Above (topS ts) k t) : k = (topS ts).length := by
 obtain ⟨h1, h2⟩ := topS_spec ts
 rcases Nat.lt_or_ge k (topS ts).length with hl | hl
 ·exact absurd ((above_at h2 hk hl).2 (Nat.le_refl _)) (h _ ((h1 _).1 (List.getElem_mem hl)))
 ·omega
theorem top_next {ts : List (List UInt8)} {k : Nat} {x : List UInt8} (hk : k ≤ (topS ts).length) (hx : x ∈ ts) (ha : Above (topS ts) k x) (h : ∀ t ∈ ts, Above (topS ts) k t → x ≤ t) : (topS ts)[k]? = some x := by
 obtain ⟨h1, h2⟩ := topS_spec ts
 obtain ⟨j, hj, rfl⟩ := List.mem_iff_getElem.1 ((h1 x).2 hx)
 have hkj := (above_at h2 hk hj).1 ha
 rcases Nat.lt_or_ge k j with hl | hl
 ·have h3 := h _ ((h1 _).1 (List.getElem_mem (show k < (topS ts).length by omega))) ((above_at h2 hk (by omega)).2 (Nat.le_refl _))
  have h4 := List.pairwise_iff_getElem.1 h2 k j (by omega) hj hl
  exact absurd (List.le_antisymm h3 (List.le_of_lt h4)) (fun e => l8_irr _ (e ▸ h4))
 ·obtain rfl : k = j := by omega
  exact List.getElem?_eq_getElem hj
/-- the least so far among those behind the first k: nothing, or it -/
def Least (ts : List (List UInt8)) (k i : Nat) (x : List UInt8) : Prop :=
 (x = [] ∧ ∀ j t, j < i → ts[j]? = some t → ¬ Above (topS ts) k t) ∨ (x ≠ [] ∧ x ∈ ts ∧ Above (topS ts) k x ∧ ∀ j t, j < i → ts[j]? = some t → Above (topS ts) k t → x ≤ t)
theorem Least.skip {ts : List (List UInt8)} {k i : Nat} {x t : List UInt8} (h : Least ts k i x) (ht : ts[i]? = some t) (hs : ¬ Above (topS ts) k t ∨ (x ≠ [] ∧ ¬ t < x)) : Least ts k (i + 1) x := by
 rcases h with ⟨h1, h2⟩ | ⟨h1, h2, h3, h4⟩
 ·refine .inl ⟨h1, fun j u hj hu => ?_⟩
  rcases Nat.lt_or_ge j i with hl | hl
  ·exact h2 j u hl hu
  ·obtain rfl : j = i := by omega
   rw [ht] at hu; cases hu
   rcases hs with hs | hs
   ·exact hs
   ·exact absurd h1 hs.1
 ·refine .inr ⟨h1, h2, h3, fun j u hj hu ha => ?_⟩
  rcases Nat.lt_or_ge j i with hl | hl
  ·exact h4 j u hl hu ha
  ·obtain rfl : j = i := by omega
   rw [ht] at hu; cases hu
   rcases hs with hs | hs
   ·exact absurd ha hs
   ·exact List.not_lt.1 hs.2
theorem Least.take {ts : List (List UInt8)} {k i : Nat} {x t : List UInt8} (h : Least ts k i x) (ht : ts[i]? = some t) (ha : Above (topS ts) k t) (hn : t ≠ []) (hs : x = [] ∨ t < x) : Least ts k (i + 1) t := by
 refine .inr ⟨hn, List.mem_of_getElem? ht, ha, fun j u hj hu hb => ?_⟩
 rcases Nat.lt_or_ge j i with hl | hl
 ·rcases h with ⟨h1, h2⟩ | ⟨h1, h2, h3, h4⟩
  ·exact absurd hb (h2 j u hl hu)
  ·rcases hs with hs | hs
   ·exact absurd hs h1
   ·exact List.le_trans (List.le_of_lt hs) (h4 j u hl hu hb)
 ·obtain rfl : j = i := by omega
  rw [ht] at hu; cases hu
  exact List.le_refl _
theorem Least.fin {ts : List (List UInt8)} {k : Nat} {x : List UInt8} (h : Least ts k ts.length x) (hk : k ≤ (topS ts).length) : (x = [] → k = (topS ts).length) ∧ (x ≠ [] → (topS ts)[k]? = some x) := by
 have hm : ∀ t, t ∈ ts → ∃ j, j < ts.length ∧ ts[j]? = some t := fun t ht => by
  obtain ⟨j, hj, rfl⟩ := List.mem_iff_getElem.1 ht; exact ⟨j, hj, List.getElem?_eq_getElem hj⟩
 rcases h with ⟨h1, h2⟩ | ⟨h1, h2, h3, h4⟩
 ·exact ⟨fun _ => top_end hk (fun t ht => let ⟨j, hj, e⟩ := hm t ht; h2 j t hj e), fun e => absurd h1 e⟩
 ·exact ⟨fun e => absurd e h1, fun _ => top_next hk h2 h3 (fun t ht ha => let ⟨j, hj, e⟩ := hm t ht; h4 j t hj e ha)⟩
end Go.Proofs.Ytoccjgcokffkbaa
namespace Go.Proofs.Ytoccjgcokffkbaa
set_option linter.unusedVariables false
set_option linter.unusedSimpArgs false
open Go.Shelf Go.RowKit
def laysSort_ren : Go.Shelf.Ren := ⟨fun | 190 => 70 | 125 => 102 | 258 => 101 | 128 => 133 | 129 => 134 | 302 => 124 | 303 => 125 | 304 => 126 | 305 => 127 | 306 => 128 | 307 => 129 | 308 => 130 | 309 => 131 | 310 => 132 | 333 => 150 | 329 => 151 | 330 => 152 | 334 => 153 | 335 => 154 | 336 => 155 | 344 => 165 | n => n, fun | 31 => 24 | 9 => 9 | 3 => 3 | 46 => 120 | 0 => 0 | 51 => 174 | 53 => 176 | 4 => 4 | 183 => 167 | 182 => 166 | 131 => 171 | 5 => 5 | 218 => 189 | 222 => 193 | 228 => 204 | 229 => 95 | n => n, fun | n => n⟩
theorem laysSort : Go.Proofs.Lays.n190 Try.prog laysSort_ren := {
 mixed := by kernel_rfl
 f125 := Try.func102.trans (congrArg some (by kernel_rfl))
 f128 := Try.func133.trans (congrArg some (by kernel_rfl))
 f129 := Try.func134.trans (congrArg some (by kernel_rfl))
 f190 := Try.func70.trans (congrArg some (by kernel_rfl))
 f258 := Try.func101.trans (congrArg some (by kernel_rfl))
 f302 := Try.func124.trans (congrArg some (by kernel_rfl))
 f303 := Try.func125.trans (congrArg some (by kernel_rfl))
 f304 := Try.func126.trans (congrArg some (by kernel_rfl))
 f305 := Try.func127.trans (congrArg some (by kernel_rfl))
 f306 := Try.func128.trans (congrArg some (by kernel_rfl))
 f307 := Try.func129.trans (congrArg some (by kernel_rfl))
 f308 := Try.func130.trans (congrArg some (by kernel_rfl))
 f309 := Try.func131.trans (congrArg some (by kernel_rfl))
 f310 := Try.func132.trans (congrArg some (by kernel_rfl))
 f329 := Try.func151.trans (congrArg some (by kernel_rfl))
 f330 := Try.func152.trans (congrArg some (by kernel_rfl))
 f333 := Try.func150.trans (congrArg some (by kernel_rfl))
 f334 := Try.func153.trans (congrArg some (by kernel_rfl))
 f335 := Try.func154.trans (congrArg some (by kernel_rfl))
 f336 := Try.func155.trans (congrArg some (by kernel_rfl))
 f344 := Try.func165.trans (congrArg some (by kernel_rfl))
 t0 := Try.underlying0
 a0 := Try.isAgg0
 z0 := Try.sizeOf0
 v0 := Try.zeroValue0
 t3 := Try.underlying3
 a3 := Try.isAgg3
 z3 := Try.sizeOf3
 v3 := Try.zeroValue3
 t4 := Try.underlying4
 a4 := Try.isAgg4
 z4 := Try.sizeOf4
 v4 := Try.zeroValue4
 t5 := Try.underlying5
 a5 := Try.isAgg5
 z5 := Try.sizeOf5
 v5 := Try.zeroValue5
 t9 := Try.underlying9
 a9 := Try.isAgg9
 z9 := Try.sizeOf9
 v9 := Try.zeroValue9
 t31 := Try.underlying24
 a31 := Try.isAgg24
 z31 := Try.sizeOf24
 v31 := Try.zeroValue24
 t46 := Try.underlying120
 a46 := Try.isAgg120
 z46 := Try.sizeOf120
 v46 := Try.zeroValue120
 t51 := Try.underlying174
 a51 := Try.isAgg174
 z51 := Try.sizeOf174
 v51 := Try.zeroValue174
 t53 := Try.underlying176
 a53 := Try.isAgg176
 z53 := Try.sizeOf176
 v53 := Try.zeroValue176
 t131 := Try.underlying171
 a131 := Try.isAgg171
 z131 := Try.sizeOf171
 v131 := Try.zeroValue171
 t182 := Try.underlying166
 a182 := Try.isAgg166
 z182 := Try.sizeOf166
 v182 := Try.zeroValue166
 t183 := Try.underlying167
 a183 := Try.isAgg167
 z183 := Try.sizeOf167
 v183 := Try.zeroValue167
 t218 := Try.underlying189
 a218 := Try.isAgg189
 z218 := Try.sizeOf189
 v218 := Try.zeroValue189
 t222 := Try.underlying193
 a222 := Try.isAgg193
 z222 := Try.sizeOf193
 v222 := Try.zeroValue193
 t228 := Try.underlying204
 a228 := Try.isAgg204
 z228 := Try.sizeOf204
 v228 := Try.zeroValue204
 t229 := Try.underlying95
 a229 := Try.isAgg95
 z229 := Try.sizeOf95
 v229 := Try.zeroValue95 }
theorem fSort : laysSort_ren.f 190 = 70 := by kernel_rfl
def laysCompact_ren : Go.Shelf.Ren := ⟨fun | 194 => 72 | n => n, fun | 31 => 24 | 9 => 9 | 3 => 3 | 4 => 4 | 0 => 0 | n => n, fun | n => n⟩
theorem laysCompact : Go.Proofs.Lays.n194 Try.prog laysCompact_ren := {
 mixed := by kernel_rfl
 f194 := Try.func72.trans (congrArg some (by kernel_rfl))
 t0 := Try.underlying0
 a0 := Try.isAgg0
 z0 := Try.sizeOf0
 v0 := Try.zeroValue0
 t3 := Try.underlying3
 a3 := Try.isAgg3
 z3 := Try.sizeOf3
 v3 := Try.zeroValue3
 t4 := Try.underlying4
 a4 := Try.isAgg4
 z4 := Try.sizeOf4
 v4 := Try.zeroValue4
 t9 := Try.underlying9
 a9 := Try.isAgg9
 z9 := Try.sizeOf9
 v9 := Try.zeroValue9
 t31 := Try.underlying24
 a31 := Try.isAgg24
 z31 := Try.sizeOf24
 v31 := Try.zeroValue24 }
theorem fCompact : laysCompact_ren.f 194 = 72 := by kernel_rfl
open Go.Sort
/-- the text of these bytes -/
def TB (x : List UInt8) : ByteArray := ⟨x.toArray⟩
theorem compact_length_le' (zs : List (List UInt8)) : (Lib.compact zs).length ≤ zs.length := by
 unfold Lib.compact Lib.compactUpTo
 rw [List.length_map]
 exact Nat.le_trans (List.length_filter_le _ _) (by simp)
theorem strs_TB (ys : List (List UInt8)) : strs (ys.map TB) = ys.map encStr := by rw [strs, List.map_map]; rfl
/-- only block g turned -/
theorem putRow_only (w : World) (g off : Nat) (d : Array (List UInt8)) : Only g (g + 1) w (putRow encStr w g off d) := by
 refine ⟨rfl, rfl, rfl, by simp, fun k hk hd => ?_⟩
 have : ¬ g = k := by omega
 simp [putRow, mapBlock, Array.getElem?_modify, this]
theorem grow_only (w : World) (os : Array Obj) (g : Nat) : Only g (g + 1) w (grow w os) := ⟨rfl, rfl, rfl, by simp, fun k hk _ => heap_grow_old w os hk⟩
theorem ahead_only (w : World) (n g : Nat) : Only g (g + 1) w (Sort.ahead w n) := ⟨rfl, rfl, rfl, Nat.le_refl _, fun _ _ _ => rfl⟩
theorem Holds.front {w : World} {g : Nat} {a b : List (List UInt8)} (h : Holds encStr w g 0 (a ++ b).toArray) : Holds encStr w g 0 a.toArray := by
 intro j hj
 have hj' : j < a.length := by simpa using hj
 have := h j (by simp; omega)
 rw [getElem!_pos _ j (by simp; omega)] at this
 rw [getElem!_pos _ j (by simp; omega)]
 simpa [List.getElem_append_left hj'] using this
theorem Holds.own {w : World} {g : Nat} {ys : List (List UInt8)} (h : Holds encStr w g 0 ys.toArray) (hg : g < w.heap.size) (hf : ∀ j, w.frozen? ⟨g, j, none⟩ = false) : Own w g (g + 1) (some ⟨g, 0, none⟩) (strs (ys.map TB)) := by
 intro _
 refine ⟨g, 0, rfl, Nat.le_refl _, Nat.lt_succ_self _, by omega, fun j u hu => ?_, fun j => hf _⟩
 rw [strs_TB, List.getElem?_map] at hu
 obtain ⟨x, hx, rfl⟩ := Option.map_eq_some_iff.1 hu
 obtain ⟨hj, rfl⟩ := List.getElem?_eq_some_iff.1 hx
 have := (h j (by simpa using hj)).1
 rw [getElem!_pos _ j (by simpa using hj)] at this
 simpa using this
theorem srt_c (g cap n : Nat) (zs : List (List UInt8)) (w : World) (hn : zs.length = n) (hl : n ≤ 1048576) (hg : g < w.heap.size) (hH : Holds encStr w g 0 zs.toArray) (hf : ∀ j, w.frozen? ⟨g, j, none⟩ = false) :
  Calls Try.prog 70 #[.slice (some ⟨g, 0, none⟩) n cap] w fun e w' => e = .returned (.tuple #[]) ∧ Holds encStr w' g 0 (zs.mergeSort fun x y => decide (x ≤ y)).toArray ∧ (∀ j, w'.frozen? ⟨g, j, none⟩ = false) ∧ Only g (g + 1) w w' := by
 have h := Any.slices_Sort_string laysSort g 0 cap zs w hH hg (by omega)
 rw [fSort, hn] at h
 refine h.mono ?_
 rintro e w' ⟨he, q, os, rfl⟩
 have hs : (zs.mergeSort fun x y => decide (x ≤ y)).toArray.size = zs.toArray.size := by simp [List.length_mergeSort]
 refine ⟨he, holds_grow _ _ _ _ _ _ (by simpa using hg) (holds_putRow _ _ _ _ zs.toArray _ (fun j hj => hH j hj) hs), fun j => ?_, ?_⟩
 ·rw [frozen?_grow _ _ _ (by simpa using hg), frozen?_putRow]; exact hf j
 ·exact ((ahead_only w q g).trans (putRow_only _ g 0 _)).trans (grow_only _ os g)
theorem cmp_c (g cap n : Nat) (zs : List (List UInt8)) (w : World) (hn : zs.length = n) (hl : n ≤ 1048576) (hc : n ≤ cap) (hg : g < w.heap.size) (hH : Holds encStr w g 0 zs.toArray) (hf : ∀ j, w.frozen? ⟨g, j, none⟩ = false) :
  Calls Try.prog 72 #[.slice (some ⟨g, 0, none⟩) n cap] w fun e w' => e = .returned (.slice (some ⟨g, 0, none⟩) (Lib.compact zs).length cap) ∧ Holds encStr w' g 0 (Lib.compact zs).toArray ∧ (∀ j, w'.frozen? ⟨g, j, none⟩ = false) ∧ Only g (g + 1) w w' := by
 have h := Any.slices_Compact_string laysCompact g 0 cap zs w hH (by omega) (by omega)
 rw [fCompact, hn] at h
 refine h.mono ?_
 rintro e w' ⟨he, q, rfl⟩
 have hle := compact_length_le' zs
 have hs : (Lib.compact zs ++ List.replicate (n - (Lib.compact zs).length) []).toArray.size = zs.toArray.size := by simp; omega
 refine ⟨he, Holds.front (holds_putRow _ _ _ _ zs.toArray _ (fun j hj => hH j hj) hs), fun j => ?_, (ahead_only w q g).trans (putRow_only _ g 0 _)⟩
 rw [frozen?_putRow]; exact hf j
set_option maxRecDepth 100000 in
set_option maxHeartbeats 400000 in
theorem clip_c (g cap m : Nat) (w : World) (hc : m ≤ cap) : Calls Try.prog 71 #[.slice (some ⟨g, 0, none⟩) m cap] w fun e w' => e = .returned (.slice (some ⟨g, 0, none⟩) m m) ∧ w = w' := by
 have E1 : (m : Int) ≤ (cap : Int) := by omega
 go_enter Try.func71, Try.ntmps71
 go_wp2
 go_ret
 exact ⟨rfl, rfl⟩
set_option maxRecDepth 100000 in
set_option maxHeartbeats 400000 in
theorem clip0_c (cap : Nat) (w : World) : Calls Try.prog 71 #[.slice none 0 0] w fun e w' => e = .returned (.slice none 0 0) ∧ w = w' := by
 go_enter Try.func71, Try.ntmps71
 go_wp2
 go_ret
 exact ⟨rfl, rfl⟩
end Go.Proofs.Ytoccjgcokffkbaa
namespace Go.Proofs.Ytoccjgcokffkbaa
set_option linter.unusedVariables false
set_option linter.unusedSimpArgs false
open Go.RowKit Go.Sort
def tops (l : List Ent) : List (List UInt8) := l.map fun e => e.topic.data.toList
def topM (l : List Ent) : List ByteArray := if logOk l then (topS (tops l)).map TB else []
theorem topM_len (l : List Ent) : (topM l).length ≤ l.length := by
 rw [topM]
 split
 ·rw [List.length_map]
  have := compact_length_le' ((tops l).mergeSort fun x y => decide (x ≤ y))
  rw [List.length_mergeSort, tops, List.length_map] at this
  exact this
 ·exact Nat.zero_le _
theorem holds_row {w : World} {base g cap n : Nat} {L : List ByteArray} (h : w.ownsRow base 9 1 (.slice (some ⟨g, 0, none⟩) n cap) n (strs L)) (hn : L.length = n) : Holds encStr w g 0 (L.map fun s => s.data.toList).toArray := by
 intro j hj
 have hj' : j < L.length := by simpa using hj
 have hc := h.cellAt j (by omega)
 rw [strs_get (List.getElem?_eq_getElem hj')] at hc
 refine ⟨?_, ?_⟩
 ·rw [Nat.zero_add, hc, getElem!_pos _ j (by simpa using hj')]
  simp only [List.getElem_toArray, List.getElem_map]
 ·rcases h.2 with ⟨e, _⟩ | ⟨g', cap', cur, e, _, h3, _⟩
  ·cases e
  ·cases e; exact frozen_of_row w g _ cur _ h3
set_option maxRecDepth 100000 in
set_option maxHeartbeats 4000000 in
theorem implTopicsOf_c (A : Option Addr) (c lo hi n : Nat) (l : List Ent) (w : World) (hr : Rd w lo hi A (ents l)) (hn : l.length = n) (hl : n ≤ 1048576) (hf : ∀ x ∈ l, x.fits) :
  Calls Try.prog 29 #[.agg #[.slice A n c]] w fun e w' => ∃ A' c', e = .returned (.slice A' (topM l).length c') ∧ Own w' w.heap.size w'.heap.size A' (strs (topM l)) ∧ Below w.heap.size w w' := by
 have HLG := Lib.hid (fun W (h : Rd W 0 W.heap.size A (ents l)) => implLogOk_c A c 0 W.heap.size n l W h hn hl hf)
 have HN := Lib.hid hn
 have HR := Lib.hid hr.base
 rcases hq : logOk l with _ | _
 ·have HT : Hid (topM l = []) := Lib.hid (by rw [topM, hq]; rfl)
  rw [hq] at HLG
  rw [HT.out]
  clear hr hn hf hq
  have HB : Hid (Below w.heap.size w w) := Below.refl _ _
  go_enter Try.func29, Try.ntmps29
  go_wp2_with fail
  refine calls_named (fun w1 hw => ?_)
  have hz1 : w.heap.size + 1 ≤ w1.heap.size := by rw [hw]; first | omega | (simp [World.setCell]; done) | (simp [World.setCell]; omega)
  have hzz1 : w.heap.size ≤ w1.heap.size := by omega
  have hbn : Below w.heap.size w w1 := by rw [hw]; exact (by ((repeat (first | ((with_reducible refine Below.alloc ?_ ?_ _); rotate_left 1; (focus (first | omega | (simp; done) | (simp; omega)))) | (with_reducible refine Below.drew ?_) | ((with_reducible refine Below.setCell ?_ ?_ _); rotate_left 1; (focus (first | omega | (simp; done) | (simp; omega)))))); exact Below.refl _ _))
  replace HB := Lib.hid (below_then HB.out hbn HB.out.size)
  clear hbn
  have HXb : Hid (NewBox w1 (w.heap.size) [.slice A n c]) := by rw [Hid, hw]; exact ⟨by first | omega | (simp [World.setCell]; done) | (simp [World.setCell]; omega), fun o => by rcases o with _ | o <;> go_simp, fun o => by go_simp⟩
  have hxb := HXb.out.2.1
  have hfb := HXb.out.2.2
  have hkb := HXb.out.1
  clear hw
  refine (HLG.out _ (HR.out.below HB.out).base).mono ?_
  rintro e w2 ⟨rfl, hb⟩
  have hzw2 : w1.heap.size ≤ w2.heap.size := hb.size
  have hzzw2 : w.heap.size ≤ w2.heap.size := by omega
  replace HB := Lib.hid (below_then HB.out hb HB.out.size)
  replace HXb := Lib.hid (HXb.out.below hb)
  clear hxb hfb hkb
  have hxb := HXb.out.2.1
  have hfb := HXb.out.2.2
  have hkb := HXb.out.1
  clear hb
  go_wp2
  go_ret
  exact ⟨none, 0, rfl, Own.nil, HB.out⟩
 ·have HT : Hid (topM l = (topS (tops l)).map TB) := Lib.hid (by rw [topM, hq]; rfl)
  rw [hq] at HLG
  obtain ⟨L, hL⟩ : ∃ L, L = l.map Ent.topic := ⟨_, rfl⟩
  have HLL := Lib.hid hL
  have HTL : Hid (tops l = L.map fun s => s.data.toList) := Lib.hid (by rw [hL, List.map_map]; rfl)
  clear hr hn hf hq hL
  have HB : Hid (Below w.heap.size w w) := Below.refl _ _
  go_enter Try.func29, Try.ntmps29
  go_wp2_with fail
  refine calls_named (fun w1 hw => ?_)
  have hz1 : w.heap.size + 1 ≤ w1.heap.size := by rw [hw]; first | omega | (simp [World.setCell]; done) | (simp [World.setCell]; omega)
  have hzz1 : w.heap.size ≤ w1.heap.size := by omega
  have hbn : Below w.heap.size w w1 := by rw [hw]; exact (by ((repeat (first | ((with_reducible refine Below.alloc ?_ ?_ _); rotate_left 1; (focus (first | omega | (simp; done) | (simp; omega)))) | (with_reducible refine Below.drew ?_) | ((with_reducible refine Below.setCell ?_ ?_ _); rotate_left 1; (focus (first | omega | (simp; done) | (simp; omega)))))); exact Below.refl _ _))
  replace HB := Lib.hid (below_then HB.out hbn HB.out.size)
  clear hbn
  have HXb : Hid (NewBox w1 (w.heap.size) [.slice A n c]) := by rw [Hid, hw]; exact ⟨by first | omega | (simp [World.setCell]; done) | (simp [World.setCell]; omega), fun o => by rcases o with _ | o <;> go_simp, fun o => by go_simp⟩
  have hxb := HXb.out.2.1
  have hfb := HXb.out.2.2
  have hkb := HXb.out.1
  clear hw
  refine (HLG.out _ (HR.out.below HB.out).base).mono ?_
  rintro e w2 ⟨rfl, hb⟩
  have hzw2 : w1.heap.size ≤ w2.heap.size := hb.size
  have hzzw2 : w.heap.size ≤ w2.heap.size := by omega
  replace HB := Lib.hid (below_then HB.out hb HB.out.size)
  replace HXb := Lib.hid (HXb.out.below hb)
  clear hxb hfb hkb
  have hxb := HXb.out.2.1
  have hfb := HXb.out.2.2
  have hkb := HXb.out.1
  clear hb
  go_wp2
  clear HLG
  go_loopw [3, 12] (fun v i wx => ∃ (k : Nat) (A0 : Option Addr) (c0 : Nat), k ≤ n ∧ i = .int .i64 k ∧ v = .slice A0 k c0 ∧ wx.ownsRow w.heap.size 9 1 (.slice A0 k c0) k (strs (L.take k)) ∧ Below w.heap.size w wx) (fun _ i _ => n - (intOf i).toNat)
  case atStart => exact ⟨0, none, 0, Nat.zero_le _, rfl, rfl, World.ownsRow_nil _ _ _ _, HB.out⟩
  case round =>
   clear HB
   obtain ⟨k, A0, c0, hk, rfl, rfl, how, hbr⟩ := hrel
   have HBR := Lib.hid hbr
   have HOW := Lib.hid how
   by_cases hlt : k < n
   ·obtain ⟨b, off, x, rfl, hb, hx, hc⟩ := ent_cells (HR.out.below HBR.out) (k := k) (by rw [HN.out]; exact hlt)
    have hc0 := hc.1
    have hc1 := hc.2.1
    have hc2 := hc.2.2.1
    have hc3 := hc.2.2.2.1
    have hc4 := hc.2.2.2.2
    have HTK : Hid (L.take (k + 1) = L.take k ++ [x.topic]) := Lib.hid (take_succ (by rw [HLL.out, List.getElem?_map, hx]; rfl))
    have hI : (k : Int) < n := by omega
    clear hc hx how hbr
    go_wp2_with (at_builtin; refine stop_here ?_)
    intro _
    refine wpList_named (fun wN hw => ?_)
    have hrow : wN.ownsRow w.heap.size 9 1 (.slice A0 k c0) k (strs (L.take k)) := by rw [hw]; exact (HOW.out.alloc _).alloc _
    have hbx : NewBox wN (wr.heap.size + 1) [.string x.topic] := by
     rw [hw]
     have h := NewBox.new (wr.alloc (.cells #[.string x.topic, .int .i64 x.index, .int .i64 x.time, .string x.key, .string x.body] 55)) #[.string x.topic] 9
     simpa using h
    have hbN : Below w.heap.size w wN := by rw [hw]; exact (HBR.out.alloc HBR.out.size _).alloc (by have := HBR.out.size; simp; omega) _
    clear hw hc0 hc1 hc2 hc3 hc4
    refine app1Str rfl _ _ rfl w.heap.size _ _ _ rfl hrow (wr.heap.size + 1) x.topic rfl hbx (by omega) hbN.size ?_
    intro v2 w2 hown2 hg2
    have hon := grown_only hrow hg2
    obtain ⟨A2, c2, rfl, _, _, _⟩ := ownsRow_slice hown2
    have HB2 : Hid (Below w.heap.size w w2) := below_only hbN hon (Nat.le_refl _) hbN.size
    rw [← strs_app, ← HTK.out] at hown2
    have HO2 := Lib.hid hown2
    clear hown2 hg2 hon hrow hbx hbN HOW
    go_wp2
    go_roundw
    case rel => exact ⟨k + 1, A2, c2, by omega, by go_num, rfl, HO2.out, HB2.out⟩
    case measure => simp [intOf]; omega
   ·obtain rfl : k = n := by omega
    have hLn : L.length = k := by rw [HLL.out, List.length_map, HN.out]
    have htk : L.take k = L := List.take_of_length_le (by omega)
    rw [htk] at how
    clear hlt hbr HOW htk
    rcases how.2 with ⟨e, hk0⟩ | ⟨g, cap, cur, e, hgb, hgc, _⟩
    ·injection e with e1 e2 e3
     subst e1
     subst e3
     have hk0' : k = 0 := hk0
     have HT0 : Hid (topM l = []) := Lib.hid (List.eq_nil_of_length_eq_zero (by have := topM_len l; have := HN.out; omega))
     clear how HT HTL HLL HN HR hLn
     subst hk0'
     have HS := Lib.hid (fun W => Any.slices_Sort_string_none laysSort none 0 W)
     have HC := Lib.hid (fun W => Any.slices_Compact_string_empty laysCompact none 0 W)
     rw [fSort] at HS
     rw [fCompact] at HC
     have HP := Lib.hid (fun W => clip0_c 0 W)
     go_wp2_with fail
     refine (HS.out _).mono ?_
     rintro e w1 ⟨rfl, rfl⟩
     go_wp2_with fail
     refine (HC.out _).mono ?_
     rintro e w1 ⟨rfl, rfl⟩
     go_wp2_with fail
     refine (HP.out _).mono ?_
     rintro e w1 ⟨rfl, rfl⟩
     go_wp2
     go_ret
     rw [HT0.out]
     exact ⟨none, 0, rfl, Own.nil, HBR.out⟩
    ·injection e with e1 e2 e3
     subst e1
     subst e3
     have hgl := (how.lt g rfl).2
     have hH := holds_row how hLn
     have hfz : ∀ j, wr.frozen? ⟨g, j, none⟩ = false := fun j => frozen_of_row wr g j cur _ hgc
     have hcap : k ≤ c0 := by
      obtain ⟨_, _, e, h1, _⟩ := ownsRow_slice how
      cases e; exact h1
     have HTOP : Hid (topM l = (Lib.compact ((L.map fun s => s.data.toList).mergeSort fun x y => decide (x ≤ y))).map TB) := Lib.hid (by rw [HT.out, HTL.out]; rfl)
     have hzn : (L.map fun s => s.data.toList).length = k := by rw [List.length_map, hLn]
     generalize (L.map fun s => s.data.toList) = zs at *
     have hsn : (zs.mergeSort fun x y => decide (x ≤ y)).length = k := by rw [List.length_mergeSort, hzn]
     have HS := Lib.hid (srt_c g c0 k zs wr hzn hl hgl hH hfz)
     have HC := Lib.hid (fun W h1 h2 h3 => cmp_c g c0 k (zs.mergeSort fun x y => decide (x ≤ y)) W hsn hl hcap h1 h2 h3)
     have hml : (Lib.compact (zs.mergeSort fun x y => decide (x ≤ y))).length ≤ c0 := Nat.le_trans (compact_length_le' _) (by omega)
     clear how hH hfz hgc HT HTL HLL HN HR hLn hzn hsn
     generalize (zs.mergeSort fun x y => decide (x ≤ y)) = ys at *
     have HP := Lib.hid (fun W => clip_c g c0 (Lib.compact ys).length W hml)
     generalize Lib.compact ys = cs at *
     go_wp2_with fail
     refine HS.out.mono ?_
     rintro e w1 ⟨rfl, hH1, hf1, ho1⟩
     have hg1 : g < w1.heap.size := Nat.lt_of_lt_of_le hgl ho1.size
     have HB1 := Lib.hid (below_only HBR.out ho1 hgb HBR.out.size)
     have HH1 := Lib.hid (HC.out w1 hg1 hH1 hf1)
     clear hH1 hf1 ho1 HS HC
     go_wp2_with fail
     refine HH1.out.mono ?_
     rintro e w2 ⟨rfl, hH2, hf2, ho2⟩
     have HB2 := Lib.hid (below_only HB1.out ho2 hgb HB1.out.size)
     have HO2 := Lib.hid (Holds.own hH2 (Nat.lt_of_lt_of_le hg1 ho2.size) hf2)
     have hg2 : g < w2.heap.size := Nat.lt_of_lt_of_le hg1 ho2.size
     clear hH2 hf2 ho2 HH1
     go_wp2_with fail
     refine (HP.out _).mono ?_
     rintro e w3 ⟨rfl, rfl⟩
     go_wp2
     go_ret
     rw [HTOP.out, List.length_map]
     exact ⟨_, _, rfl, HO2.out.mono hgb (by omega) (Nat.le_refl _), HB2.out⟩
end Go.Proofs.Ytoccjgcokffkbaa
namespace Go.Proofs.Ytoccjgcokffkbaa
set_option linter.unusedVariables false
set_option linter.unusedSimpArgs false
open Go.RowKit
theorem log_at {l : List Ent} (h : logOk l = true) {n : Nat} {e : Ent} (he : l[n]? = some e) : entryOk e = true ∧ (cnt (l.take n) e.topic : Int) = e.index := by
 rw [logOk, Bool.and_eq_true, rightTo, List.all_eq_true] at h
 have := h.2 n (List.mem_range.2 (List.getElem?_eq_some_iff.1 he).1)
 rw [rightAt_eq he, Bool.and_eq_true] at this
 exact ⟨this.1, of_decide_eq_true this.2⟩
theorem ent_all {e : Ent} (h : entryOk e = true) : nameOk e.topic = true ∧ 0 ≤ e.index ∧ e.index ≤ 511 ∧ partsOk e.time e.key e.body = true := by
 rw [entryOk, Bool.and_eq_true, Bool.and_eq_true] at h
 have := inR_true.1 h.2.1
 exact ⟨h.1, this.1, this.2, h.2.2⟩
theorem toList_inj {a b : ByteArray} (h : (a.toList == b.toList) = true) : a = b := by
 rcases Decidable.em (a = b) with e | e
 ·exact e
 ·rw [beq_no e] at h; cases h
theorem cnt_mono {l : List Ent} {t : ByteArray} {m : Nat} : ∀ {k : Nat}, cnt (l.take m) t ≤ cnt (l.take (m + k)) t
 | 0 => Nat.le_refl _
 | k + 1 => by
   refine Nat.le_trans (cnt_mono (k := k)) ?_
   rcases Nat.lt_or_ge (m + k) l.length with h | h
   ·rw [show m + (k + 1) = m + k + 1 by omega, cnt_take t (List.getElem?_eq_getElem h)]; omega
   ·rw [List.take_of_length_le (show l.length ≤ m + (k + 1) by omega), List.take_of_length_le h]; exact Nat.le_refl _
theorem firstFrom_at {p : Ent → Bool} : ∀ {l : List Ent} {j n : Nat} {e : Ent}, l[n]? = some e → p e = true → (∀ m x, m < n → l[m]? = some x → p x = false) → firstFrom p l j = ((j + n : Nat) : Int)
 | [], j, n, e, h, _, _ => by cases h
 | x :: l, j, 0, e, h, hp, _ => by cases h; rw [firstFrom, if_pos hp]; rfl
 | x :: l, j, n + 1, e, h, hp, hq => by
   rw [firstFrom, if_neg (by rw [hq 0 x (by omega) rfl]; exact Bool.false_ne_true), firstFrom_at (l := l) (j := j + 1) (n := n) (e := e) h hp (fun m y hm hy => hq (m + 1) y (by omega) hy)]
   congr 1; omega
theorem isTI_true {t : ByteArray} {i : Int} {e : Ent} : isTI t i e = true ↔ e.topic = t ∧ e.index = i := by
 rw [isTI, Bool.and_eq_true]
 constructor
 ·rintro ⟨h1, h2⟩; exact ⟨toList_inj h1, by simpa using h2⟩
 ·rintro ⟨rfl, rfl⟩; exact ⟨beq_self_eq_true _, beq_self_eq_true _⟩
/-- each entry is found by its topic and index -/
theorem leaf_at {l : List Ent} (h : logOk l = true) {n : Nat} {e : Ent} (he : l[n]? = some e) : firstFrom (isTI e.topic e.index) l 0 = (n : Int) := by
 have hn := (List.getElem?_eq_some_iff.1 he).1
 have h1 := (log_at h he).2
 have h2 := firstFrom_at (p := isTI e.topic e.index) (l := l) (j := 0) he (isTI_true.2 ⟨rfl, rfl⟩) (fun m x hm hx => by
  rcases hq : isTI e.topic e.index x with _ | _
  ·rfl
  ·obtain ⟨q1, q2⟩ := isTI_true.1 hq
   have h3 := (log_at h hx).2
   have h4 := cnt_yes hx q1
   have h5 := cnt_mono (l := l) (t := e.topic) (m := m + 1) (k := n - (m + 1))
   rw [show m + 1 + (n - (m + 1)) = n by omega, h4] at h5
   rw [q1] at h3
   omega)
 rw [Nat.zero_add] at h2
 exact h2
theorem isTF_true {t : ByteArray} {i : Int} {e : Ent} : isTF t i e = true ↔ e.topic = t ∧ i ≤ e.index := by
 rw [isTF, Bool.and_eq_true, decide_eq_true_iff]
 constructor
 ·rintro ⟨h1, h2⟩; exact ⟨toList_inj h1, h2⟩
 ·rintro ⟨rfl, h2⟩; exact ⟨beq_self_eq_true _, h2⟩
/-- the places of a topic -/
structure PicksAt (l : List Ent) (t : ByteArray) (k : Nat) (a : List Int) : Prop where
 len : a.length = cnt (l.take k) t
 at_ : ∀ (j : Nat) (i : Int), a[j]? = some i → ∃ (n : Nat) (e : Ent), i = (n : Int) ∧ n < k ∧ l[n]? = some e ∧ e.topic = t ∧ e.index = (j : Int)
 up : ∀ (j : Nat) (i q : Int), a[j]? = some i → a[j + 1]? = some q → i < q
theorem picks_at {l : List Ent} (h : logOk l = true) (t : ByteArray) : ∀ {k : Nat}, k ≤ l.length → PicksAt l t k (pickAt (isTF t 0) 512 l k)
 | 0, _ => ⟨by rw [List.take_zero]; rfl, fun j i hj => (by rw [pickAt] at hj; exact absurd hj (by simp)), fun j i q hj => (by rw [pickAt] at hj; exact absurd hj (by simp))⟩
 | k + 1, hk => by
   have ih := picks_at h t (k := k) (by omega)
   obtain ⟨e, he⟩ : ∃ e, l[k]? = some e := ⟨_, List.getElem?_eq_getElem (by omega)⟩
   have hle := pick_len (isTF t 0) 512 l k
   have h5 := logOk_len h
   by_cases ht : e.topic = t
   ·have hp : isTF t 0 e = true := isTF_true.2 ⟨ht, (ent_all (log_at h he).1).2.1⟩
    rw [pick_hit he hp (by omega)]
    refine ⟨by rw [List.length_append, ih.len, cnt_yes he ht]; rfl, fun j i hj => ?_, fun j i q hj hq => ?_⟩
    ·rcases Nat.lt_or_ge j (pickAt (isTF t 0) 512 l k).length with hl | hl
     ·rw [List.getElem?_append_left hl] at hj
      obtain ⟨n, x, h1, h2, h3⟩ := ih.at_ j i hj
      exact ⟨n, x, h1, by omega, h3⟩
     ·rw [List.getElem?_append_right hl] at hj
      have hj0 : j - (pickAt (isTF t 0) 512 l k).length = 0 := by
       have := (List.getElem?_eq_some_iff.1 hj).1
       simp at this; omega
      rw [hj0] at hj
      cases hj
      refine ⟨k, e, rfl, by omega, he, ht, ?_⟩
      have h6 := (log_at h he).2
      rw [ht, ← ih.len] at h6
      omega
    ·have hq1 := (List.getElem?_eq_some_iff.1 hq).1
     rw [List.length_append] at hq1
     have hq2 : j + 1 < (pickAt (isTF t 0) 512 l k).length + 1 := hq1
     rw [List.getElem?_append_left (by omega)] at hj
     rcases Nat.lt_or_ge (j + 1) (pickAt (isTF t 0) 512 l k).length with hl | hl
     ·rw [List.getElem?_append_left hl] at hq
      exact ih.up j i q hj hq
     ·rw [List.getElem?_append_right hl, show j + 1 - (pickAt (isTF t 0) 512 l k).length = 0 by omega] at hq
      cases hq
      obtain ⟨n, x, h1, h2, _⟩ := ih.at_ j i hj
      omega
   ·have hp : isTF t 0 e = false := by
     rcases hq : isTF t 0 e with _ | _
     ·rfl
     ·exact absurd (isTF_true.1 hq).1 ht
    rw [pick_miss he hp]
    refine ⟨by rw [ih.len, cnt_no he ht], fun j i hj => ?_, ih.up⟩
    obtain ⟨n, x, h1, h2, h3⟩ := ih.at_ j i hj
    exact ⟨n, x, h1, by omega, h3⟩
/-- all of one topic: as many as there are, each found, rising -/
theorem leaves_of {l : List Ent} (h : logOk l = true) (t : ByteArray) : (leavesAtM l t 0 512).length = cnt l t ∧ (∀ (j : Nat) (i : Int), (leavesAtM l t 0 512)[j]? = some i → leafOfM l t j = i ∧ I64 i) ∧
  ∀ (j : Nat) (i q : Int), (leavesAtM l t 0 512)[j]? = some i → (leavesAtM l t 0 512)[j + 1]? = some q → i < q := by
 have hp := picks_at h t (k := l.length) (Nat.le_refl _)
 have h5 := logOk_len h
 rw [leavesAtM, if_pos h]
 refine ⟨by rw [hp.len, List.take_length], fun j i hj => ?_, hp.up⟩
 obtain ⟨n, e, rfl, h2, h3, rfl, h4⟩ := hp.at_ j i hj
 refine ⟨by rw [leafOfM, if_pos h, ← h4]; exact leaf_at h h3, by constructor <;> omega⟩
/-! the topics are all -/
def TBs (S : List (List UInt8)) : List ByteArray := S.map TB
def sumC (l : List Ent) : List ByteArray → Nat
 | [] => 0
 | t :: r => cnt l t + sumC l r
theorem sumC_append (l : List Ent) : ∀ a b, sumC l (a ++ b) = sumC l a + sumC l b
 | [], b => by rw [List.nil_append, sumC]; omega
 | t :: a, b => by rw [List.cons_append, sumC, sumC, sumC_append l a b]; omega
theorem TB_topic (e : Ent) : TB e.topic.data.toList = e.topic := by
 cases h : e.topic with | mk d => rfl
theorem sumC_nil : ∀ ts, sumC [] ts = 0
 | [] => rfl
 | t :: r => by rw [sumC, sumC_nil r]; rfl
theorem sumC_cons (e : Ent) (l : List Ent) : ∀ {S : List (List UInt8)}, S.Pairwise (· ≠ ·) → sumC (e :: l) (TBs S) = (if e.topic.data.toList ∈ S then 1 else 0) + sumC l (TBs S)
 | [], _ => by simp [TBs, sumC]
 | s :: S, h => by
   obtain ⟨h1, h2⟩ := List.pairwise_cons.1 h
   have ih := sumC_cons e l h2
   show cnt (e :: l) (TB s) + sumC (e :: l) (TBs S) = _ + (cnt l (TB s) + sumC l (TBs S))
   rw [ih]
   have hc : cnt (e :: l) (TB s) = (if e.topic = TB s then 1 else 0) + cnt l (TB s) := rfl
   rw [hc]
   by_cases hs : e.topic = TB s
   ·have e1 : e.topic.data.toList = s := by rw [hs]; rfl
    have e2 : e.topic.data.toList ∉ S := fun hm => h1 _ hm e1.symm
    rw [if_pos hs, if_neg e2, if_pos (by rw [e1]; exact List.mem_cons_self)]; omega
   ·have e1 : e.topic.data.toList ≠ s := fun h => hs (by rw [← h, TB_topic])
    rw [if_neg hs]
    by_cases hm : e.topic.data.toList ∈ S
    ·rw [if_pos hm, if_pos (List.mem_cons_of_mem _ hm)]; omega
    ·rw [if_neg hm, if_neg (by rw [List.mem_cons]; rintro (h | h); exact e1 h; exact hm h)]; omega
theorem sumC_all {S : List (List UInt8)} (hS : S.Pairwise (· ≠ ·)) : ∀ {l : List Ent}, (∀ e ∈ l, e.topic.data.toList ∈ S) → sumC l (TBs S) = l.length
 | [], _ => sumC_nil _
 | e :: l, h => by
   rw [sumC_cons e l hS, if_pos (h e List.mem_cons_self), sumC_all hS (fun x hx => h x (List.mem_cons_of_mem _ hx)), List.length_cons]; omega
theorem l8_ne {a b : List UInt8} (h : a < b) : a ≠ b := fun e => l8_irr b (e ▸ h)
/-- the topics: rising, each there, and all -/
theorem topics_of {l : List Ent} (h : logOk l = true) : sumC l (topM l) = l.length ∧ (∀ t ∈ topM l, nameOk t = true ∧ 1 ≤ cnt l t) ∧
  (∀ (j : Nat) (s t : ByteArray), (topM l)[j]? = some s → (topM l)[j + 1]? = some t → s.data.toList < t.data.toList) := by
 obtain ⟨h1, h2⟩ := topS_spec (tops l)
 rw [topM, if_pos h]
 refine ⟨sumC_all (h2.imp (fun h => l8_ne h)) (fun e he => (h1 _).2 (List.mem_map.2 ⟨e, he, rfl⟩)), fun t ht => ?_, fun j s t hs ht => ?_⟩
 ·obtain ⟨s, hs, rfl⟩ := List.mem_map.1 ht
  obtain ⟨e, he, rfl⟩ := List.mem_map.1 ((h1 s).1 hs)
  rw [TB_topic]
  obtain ⟨k, hk⟩ := List.mem_iff_getElem?.1 he
  have h3 := cnt_yes hk rfl
  have h4 := cnt_mono (l := l) (t := e.topic) (m := k + 1) (k := l.length - (k + 1))
  have hkl := (List.getElem?_eq_some_iff.1 hk).1
  rw [show k + 1 + (l.length - (k + 1)) = l.length by omega, List.take_length] at h4
  exact ⟨(ent_all (log_at h hk).1).1, by omega⟩
 ·rw [List.getElem?_map] at hs ht
  obtain ⟨a, ha, rfl⟩ := Option.map_eq_some_iff.1 hs
  obtain ⟨b, hb, rfl⟩ := Option.map_eq_some_iff.1 ht
  obtain ⟨la, rfl⟩ := List.getElem?_eq_some_iff.1 ha
  obtain ⟨lb, rfl⟩ := List.getElem?_eq_some_iff.1 hb
  exact List.pairwise_iff_getElem.1 h2 j (j + 1) la lb (by omega)
/-! an entry that is added -/
theorem cnt_snoc (l : List Ent) (e : Ent) (t : ByteArray) : cnt (l ++ [e]) t = cnt l t + if e.topic = t then 1 else 0 := by
 rw [cnt, sumBy_append]; rfl
theorem lastTo_snoc {p : Ent → Bool} {l : List Ent} {e : Ent} (h : p e = true) : lastTo p (l ++ [e]) (l.length + 1) = (l.length : Int) :=
 lastTo_hit (by rw [List.getElem?_append_right (Nat.le_refl _), Nat.sub_self]; rfl) h
/-- what is found of an entry behind its adding -/
theorem added {l : List Ent} {t k b : ByteArray} {ti : Int} (h : logOk l = true) (hc : addCode l t ti k b = 0) :
  logOk (l ++ [newEnt l t ti k b]) = true ∧ leafOfM (l ++ [newEnt l t ti k b]) t (cnt l t : Nat) = (l.length : Int) ∧ latestOfM (l ++ [newEnt l t ti k b]) t k = (l.length : Int) ∧ nextOfM (l ++ [newEnt l t ti k b]) t = ((cnt l t + 1 : Nat) : Int) ∧ nextOfM l t = ((cnt l t : Nat) : Int) := by
 have h1 := logOk_add h hc
 have hn := (addCode_0 hc).1
 have hg : (l ++ [newEnt l t ti k b])[l.length]? = some (newEnt l t ti k b) := by rw [List.getElem?_append_right (Nat.le_refl _), Nat.sub_self]; rfl
 refine ⟨h1, ?_, ?_, ?_, ?_⟩
 ·rw [leafOfM, if_pos h1]; exact leaf_at h1 hg
 ·rw [latestOfM, if_pos h1, List.length_append, show [newEnt l t ti k b].length = 1 from rfl]
  refine lastTo_snoc ?_
  rw [isTK]
  show ((t.toList == t.toList) && (k.toList == k.toList)) = true
  rw [beq_self_eq_true, beq_self_eq_true]; rfl
 ·rw [nextOfM, h1, hn, cnt_snoc, if_pos (show (newEnt l t ti k b).topic = t from rfl)]; rfl
 ·rw [nextOfM, h, hn]; rfl
end Go.Proofs.Ytoccjgcokffkbaa
namespace Go.Proofs.Ytoccjgcokffkbaa
set_option linter.unusedVariables false
set_option linter.unusedSimpArgs false
open Go.RowKit
theorem Rd.strEq {w : World} {lo hi : Nat} {A : Option Addr} {l : List ByteArray} (h : Rd w lo hi A (strs l)) {b off k : Nat} {s : ByteArray} (hA : A = some ⟨b, off, none⟩) (hk : l[k]? = some s) : b < w.heap.size ∧ w.cell? ⟨b, off + k, none⟩ = some (.string s) := by
 subst hA
 obtain ⟨b', off', e, _, h3, h4, h5⟩ := h (fun e => by have h9 := strs_get hk; rw [e] at h9; cases h9)
 cases e
 exact ⟨by omega, h5 k _ (strs_get hk)⟩
theorem Rd.intEq {w : World} {lo hi : Nat} {A : Option Addr} {l : List Int} (h : Rd w lo hi A (ints l)) {b off k : Nat} {s : Int} (hA : A = some ⟨b, off, none⟩) (hk : l[k]? = some s) : b < w.heap.size ∧ w.cell? ⟨b, off + k, none⟩ = some (.int .i64 s) := by
 subst hA
 obtain ⟨b', off', e, _, h3, h4, h5⟩ := h (fun e => by have h9 := ints_get hk; rw [e] at h9; cases h9)
 cases e
 exact ⟨by omega, h5 k _ (ints_get hk)⟩
theorem idxStrT (R : Option Addr) (b off nr cr k : Nat) (hR : R = some ⟨b, off, none⟩) (hk : k < nr) (W : World) : (Instr.indexAt 24 (.slice R nr cr) (.int .i64 k)).run Try.prog W = .ok (.pointer (some ⟨b, off + k, none⟩)) W := by
 subst hR
 have h1 : (k : Int) < nr := by omega
 go_simp
theorem idxIntT (R : Option Addr) (b off nr cr k : Nat) (hR : R = some ⟨b, off, none⟩) (hk : k < nr) (W : World) : (Instr.indexAt 30 (.slice R nr cr) (.int .i64 k)).run Try.prog W = .ok (.pointer (some ⟨b, off + k, none⟩)) W := by
 subst hR
 have h1 : (k : Int) < nr := by omega
 go_simp
theorem sumC_ge {l : List Ent} : ∀ {ts : List ByteArray}, (∀ t ∈ ts, 1 ≤ cnt l t) → ts.length ≤ sumC l ts
 | [], _ => Nat.zero_le _
 | t :: r, h => by
   have h1 := h t List.mem_cons_self
   have h2 := sumC_ge (ts := r) (fun x hx => h x (List.mem_cons_of_mem _ hx))
   rw [sumC, List.length_cons]
   omega
set_option maxRecDepth 100000 in
set_option maxHeartbeats 20000000 in
theorem walk_FnTopics (n g : Nat) (B : Option Addr) (l0 : List Int) (w : World) (hr : Rd w 0 w.heap.size B (bys l0)) (hl : l0.length = n) (hng : n ≤ g) (hn : n ≤ maxLen) (hb : ∀ x ∈ l0, 0 ≤ x ∧ x ≤ 255) :
  Calls Try.prog 6 #[.slice B n g] w fun e w' => e = .returned (.bool true) ∧ Below w.heap.size w w' := by
 by_cases h20 : 1048576 < n
 ·have hd : decide (1048576 < n) = true := decide_eq_true h20
  go_enter Try.func6, Try.ntmps6
  go_wp2_with fail
  refine (big_c n g B _ hn).mono ?_
  rintro e w1 ⟨rfl, rfl⟩
  rw [hd]
  go_wp2
  go_ret
  exact ⟨rfl, Below.refl _ _⟩
 ·have hd : decide (1048576 < n) = false := decide_eq_false h20
  have HDA := Lib.hid (fun W (r : Rd W 0 W.heap.size B (bys l0)) => DrawRightP_c n g B l0 W r hl (by omega) hb)
  have HB : Hid (Below w.heap.size w w) := Below.refl _ _
  have HOQ : Hid (Rd w (0) (w.heap.size) (B) (bys l0)) := Rd.base hr
  clear hr hl hb hng
  go_enter Try.func6, Try.ntmps6
  go_wp2_with fail
  refine (big_c n g B _ hn).mono ?_
  rintro e w0_ ⟨rfl, rfl⟩
  rw [hd]
  clear hd hn
  go_wp2_with fail
  refine calls_named (fun w1 hw => ?_)
  have hz1 : w.heap.size + 0 ≤ w1.heap.size := by rw [hw]; first | omega | (simp [World.setCell]; done) | (simp [World.setCell]; omega)
  have hbn : Below w.heap.size w w1 := by rw [hw]; exact (by ((repeat (first | ((with_reducible refine Below.alloc ?_ ?_ _); rotate_left 1; (focus (first | omega | (simp; done) | (simp; omega)))) | (with_reducible refine Below.drew ?_) | ((with_reducible refine Below.setCell ?_ ?_ _); rotate_left 1; (focus (first | omega | (simp; done) | (simp; omega)))))); exact Below.refl _ _))
  replace HB := Lib.hid (below_then HB.out hbn HB.out.size)
  replace HOQ := Lib.hid (HOQ.out.below hbn)
  clear hbn
  clear hw
  refine (HDA.out _ HOQ.out.base).mono ?_
  rintro e w2 ⟨width, E, R, H, A1, A2, ne, nr, nh, ce, cr, ch, c1, c2, m1, m2, es, rs, hs, l1, l2, h, rfl, ⟨hbk, hne, hnr, hnh, hl1, hl2, hm1, hm2, hh, h24⟩, hb⟩
  have hzw2 : w1.heap.size ≤ w2.heap.size := hb.size
  have hzzw2 : w.heap.size ≤ w2.heap.size := by omega
  replace HB := Lib.hid (below_then HB.out hb HB.out.size)
  replace HOQ := Lib.hid (HOQ.out.below hb)
  clear hb
  have HOK : Hid (Rd w2 (w1.heap.size) (w2.heap.size) (E) (ents es)) := Lib.hid hbk.rE
  have hok : BrkParts width es rs hs := hbk.ok
  clear hbk HDA hl1 hl2 hm1 hm2 hh hnr hnh
  clear HOQ
  have hlog := hok.log
  obtain ⟨f1, _, _, _, _⟩ := parts_fits hok
  obtain ⟨t1, t2, t3⟩ := topics_of hlog
  have HTO := Lib.hid (fun W (r1 : Rd W 0 W.heap.size E (ents es)) => implTopicsOf_c E ce 0 W.heap.size ne es W r1 hne (by omega) f1)
  have HLO := fun W (r1 : Rd W 0 W.heap.size E (ents es)) => implLogOk_c E ce 0 W.heap.size ne es W r1 hne (by omega) f1
  rw [hlog] at HLO
  replace HLO := Lib.hid HLO
  have HNX := Lib.hid (fun (t : ByteArray) (ht : nameOk t = true) W (r1 : Rd W 0 W.heap.size E (ents es)) => (show Calls Try.prog 19 #[.agg #[.slice E ne ce], .string t] W (fun e w' => e = .returned (.int .i64 ((cnt es t : Nat) : Int)) ∧ Below W.heap.size W w') by
   have h9 := implNextOf_c E ce 0 W.heap.size ne es t W r1 hne (by omega) f1 (by have := nameOk_size ht; omega)
   rw [nextOfM, hlog, ht] at h9
   exact h9))
  have HLV := Lib.hid (fun (t : ByteArray) W (r1 : Rd W 0 W.heap.size E (ents es)) => implLeavesAt_c E ce 0 W.heap.size ne es t 0 512 W r1 hne (by omega) f1 ⟨by omega, by omega⟩)
  have HLF := Lib.hid (fun (t : ByteArray) (q : Int) W (r1 : Rd W 0 W.heap.size E (ents es)) => implLeafOf_c E ce 0 W.heap.size ne es t q W r1 hne (by omega) f1)
  have HLQ := Lib.hid (fun t => leaves_of hlog t)
  have HLA := Lib.hid (fun (k : Nat) (e : Ent) (h : es[k]? = some e) => (show leafOfM es e.topic e.index = (k : Int) by rw [leafOfM, if_pos hlog]; exact leaf_at hlog h))
  have HCN := Lib.hid (fun t => cnt_le es t)
  have hsum : sumC es (topM es) = ne := by rw [t1, hne]
  generalize topM es = ts at *
  have hnt0 := sumC_ge (l := es) (fun t ht => (t2 t ht).2)
  rw [hsum] at hnt0
  have HT2 := Lib.hid t2
  have HT3 := Lib.hid t3
  have HSUM := Lib.hid hsum
  have HNE := Lib.hid hne
  have hsl : ∀ j, sumC es (ts.take j) ≤ ne := fun j => by
   have h9 := sumC_append es (ts.take j) (ts.drop j)
   rw [List.take_append_drop, hsum] at h9
   omega
  have HSL := Lib.hid hsl
  clear hok hlog f1 t1 t2 t3 hsum hne hsl
  go_wp2_with fail
  refine calls_named (fun w3 hw => ?_)
  have hz3 : w2.heap.size + 2 ≤ w3.heap.size := by rw [hw]; first | omega | (simp [World.setCell]; done) | (simp [World.setCell]; omega)
  have hzz3 : w.heap.size ≤ w3.heap.size := by omega
  have hbn : Below w2.heap.size w2 w3 := by rw [hw]; exact (by ((repeat (first | ((with_reducible refine Below.alloc ?_ ?_ _); rotate_left 1; (focus (first | omega | (simp; done) | (simp; omega)))) | (with_reducible refine Below.drew ?_) | ((with_reducible refine Below.setCell ?_ ?_ _); rotate_left 1; (focus (first | omega | (simp; done) | (simp; omega)))))); exact Below.refl _ _))
  replace HB := Lib.hid (below_then HB.out hbn HB.out.size)
  replace HOK := Lib.hid (HOK.out.below hbn)
  clear hbn
  have HXb : Hid (NewBox w3 (w2.heap.size) [.int .i64 width, .slice E ne ce, .slice R nr cr, .slice H nh ch, .int .i64 h.size, .slice A1 m1 c1, .int .i64 h.taken, .slice A2 m2 c2, .int .i64 h.num, .int .i64 h.size, .string h.root, .int .i64 h.taken, .string h.troot]) := by rw [Hid, hw]; exact ⟨by first | omega | (simp [World.setCell]; done) | (simp [World.setCell]; omega), fun o => by rcases o with _ | _ | _ | _ | _ | _ | _ | _ | _ | _ | _ | _ | _ | o <;> go_simp, fun o => by go_simp⟩
  have hxb := HXb.out.2.1
  have hfb := HXb.out.2.2
  have hkb := HXb.out.1
  have HXl : Hid (NewBox w3 (w2.heap.size + 1) [.slice E ne ce]) := by rw [Hid, hw]; exact ⟨by first | omega | (simp [World.setCell]; done) | (simp [World.setCell]; omega), fun o => by rcases o with _ | o <;> go_simp, fun o => by go_simp⟩
  have hxl := HXl.out.2.1
  have hfl := HXl.out.2.2
  have hkl := HXl.out.1
  clear hw
  refine (HTO.out _ HOK.out.base).mono ?_
  rintro e w4 ⟨T, ct, rfl, hto, hb⟩
  have hzw4 : w3.heap.size ≤ w4.heap.size := hb.size
  have hzzw4 : w.heap.size ≤ w4.heap.size := by omega
  replace HB := Lib.hid (below_then HB.out hb HB.out.size)
  replace HOK := Lib.hid (HOK.out.below hb)
  replace HXb := Lib.hid (HXb.out.below hb)
  clear hxb hfb hkb
  have hxb := HXb.out.2.1
  have hfb := HXb.out.2.2
  have hkb := HXb.out.1
  replace HXl := Lib.hid (HXl.out.below hb)
  clear hxl hfl hkl
  have hxl := HXl.out.2.1
  have hfl := HXl.out.2.2
  have hkl := HXl.out.1
  clear hb
  have HOP : Hid (Rd w4 (w3.heap.size) (w4.heap.size) (T) (strs ts)) := Lib.hid hto.rd
  clear hto HTO
  obtain ⟨nt, hnt⟩ : ∃ n, ts.length = n := ⟨_, rfl⟩
  rw [hnt]
  rw [hnt] at hnt0
  have HNT := Lib.hid hnt
  clear hnt
  obtain ⟨pz, hpz, hpz'⟩ : ∃ n, n ≤ w3.heap.size ∧ w3.heap.size ≤ n := ⟨_, Nat.le_refl _, Nat.le_refl _⟩
  go_wp2
  refine wp_named (fun w5 hw => ?_)
  have hz5 : w4.heap.size + 0 ≤ w5.heap.size := by rw [hw]; first | omega | (simp [World.setCell]; done) | (simp [World.setCell]; omega)
  have hzz5 : w.heap.size ≤ w5.heap.size := by omega
  have hbn : Below w4.heap.size w4 w5 := by rw [hw]; exact (by ((repeat (first | ((with_reducible refine Below.alloc ?_ ?_ _); rotate_left 1; (focus (first | omega | (simp; done) | (simp; omega)))) | (with_reducible refine Below.drew ?_) | ((with_reducible refine Below.setCell ?_ ?_ _); rotate_left 1; (focus (first | omega | (simp; done) | (simp; omega)))))); exact Below.refl _ _))
  replace HB := Lib.hid (below_then HB.out hbn HB.out.size)
  replace HOK := Lib.hid (HOK.out.below hbn)
  replace HOP := Lib.hid (HOP.out.below hbn)
  replace HXb := Lib.hid (HXb.out.below hbn)
  clear hxb hfb hkb
  have hxb := HXb.out.2.1
  have hfb := HXb.out.2.2
  have hkb := HXb.out.1
  replace HXl := Lib.hid (HXl.out.below hbn)
  clear hxl hfl hkl
  have hxl := HXl.out.2.1
  have hfl := HXl.out.2.2
  have hkl := HXl.out.1
  clear hbn
  clear hw
  go_loopw [6, 7, 8, 9, 10] (fun s i _ _ _ wx => ∃ j : Nat, j ≤ nt ∧ i = .int .i64 j ∧ s = .int .i64 (sumC es (ts.take j) : Nat) ∧ NewBox wx ((w2.heap.size + 1)) [.slice E ne ce] ∧ Rd wx 0 wx.heap.size E (ents es) ∧ Rd wx 0 wx.heap.size T (strs ts) ∧ Below w.heap.size w wx) (fun _ i _ _ _ _ => nt - (intOf i).toNat)
  case atStart => exact ⟨0, Nat.zero_le _, rfl, rfl, HXl.out, HOK.out.base, HOP.out.base, HB.out⟩
  case round =>
   obtain ⟨wo, rfl⟩ : ∃ wo : World, wo = wr := ⟨_, rfl⟩
   obtain ⟨j, hj, rfl, rfl, hbx, hrk, hrp, hbl⟩ := hrel
   replace HB : Hid (Below w.heap.size w wo) := Lib.hid hbl
   replace HXl : Hid (NewBox wo (w2.heap.size + 1) [.slice E ne ce]) := Lib.hid hbx
   clear hxl hfl hkl
   have hxl := HXl.out.2.1
   have hfl := HXl.out.2.2
   have hkl := HXl.out.1
   replace HOK : Hid (Rd wo (0) (wo.heap.size) (E) (ents es)) := Lib.hid hrk
   replace HOP : Hid (Rd wo (0) (wo.heap.size) (T) (strs ts)) := Lib.hid hrp
   clear hxb hfb hkb HXb
   have hzz_wo : w.heap.size ≤ wo.heap.size := HB.out.size
   clear hbx hrk hrp hbl
   by_cases hlt : j < nt
   ·have hI : (j : Int) < nt := by omega
    obtain ⟨b2, off, t, hT, hb2, hts, hcell⟩ := HOP.out.str (k := j) (by rw [HNT.out]; exact hlt)
    have hix := idxStrT T b2 off nt ct j hT hlt
    have htn := HT2.out t (List.mem_of_getElem? hts)
    have hc1 := htn.2
    have hcl := HCN.out t
    have HNX2 := Lib.hid (fun v : Later wo => HNX.out t htn.1 v.v (HOK.out.below v.h).base)
    obtain ⟨hq1, hq2, hq3⟩ := HLQ.out t
    have HLV2 := HLV.out t
    have hstk : sumC es (ts.take (j + 1)) = sumC es (ts.take j) + cnt es t := by rw [take_succ hts, sumC_append]; rfl
    have HSTK := Lib.hid hstk
    have hsz := HSL.out (j + 1)
    rw [hstk] at hsz
    have HHT := Lib.hid hts
    have HCT := Lib.hid hcell
    have HTE := Lib.hid hT
    have HIX := Lib.hid hix
    clear hT hcell hstk HCT hix hts
    generalize leavesAtM es t 0 512 = q at *
    rw [hq1] at HLV2
    replace HLV2 := Lib.hid HLV2
    have HQ1 := Lib.hid hq1
    have HQ2 := Lib.hid hq2
    have HQ3 := Lib.hid hq3
    clear hq1 hq2 hq3 htn
    have hc24 : cnt es t ≤ 24 := by omega
    generalize cnt es t = c0 at *
    generalize hsj : sumC es (ts.take j) = sj at *
    have HSJ := Lib.hid hsj
    clear hsj
    have hix := HIX.out
    have tc0 := HOP.out.strEq HTE.out HHT.out
    have tc : ∀ v : Later wo, v.v.cell? ⟨b2, off + j, none⟩ = some (.string t) := fun v => (later_cell v _ _ tc0.1).trans tc0.2
    clear tc0
    have t0 : ∀ v : Later wo, v.v.cell? ⟨(w2.heap.size + 1), 0, none⟩ = some (.slice E ne ce) := fun v => (later_cell v _ _ hkl).trans (hxl 0)
    go_wp2_with fail
    refine wp_region_later (by kernel_rfl) (by kernel_rfl) ?_
    repeat (go_big_quiet_step ((first | with_reducible exact later_call (HNX2.out _))))
    refine wpQuiet_nil ?_
    intro wA h9
    have hb9 := later_below h9
    have hzwA : wo.heap.size ≤ wA.heap.size := hb9.size
    have hzzwA : w.heap.size ≤ wA.heap.size := by omega
    replace HB := Lib.hid (below_then HB.out hb9 HB.out.size)
    replace HOK := Lib.hid (HOK.out.below hb9)
    replace HOP := Lib.hid (HOP.out.below hb9)
    replace HXl := Lib.hid (HXl.out.below hb9)
    clear hxl hfl hkl
    have hxl := HXl.out.2.1
    have hfl := HXl.out.2.2
    have hkl := HXl.out.1
    clear h9 hb9 tc t0 HNX2
    try simp only [Act.put, List.setIfInBounds_toArray, List.set_cons_zero, List.set_cons_succ]
    go_upto_region 11 with fail
    refine wp_named (fun w6 hw => ?_)
    have hz6 : wA.heap.size + 0 ≤ w6.heap.size := by rw [hw]; first | omega | (simp [World.setCell]; done) | (simp [World.setCell]; omega)
    have hzz6 : w.heap.size ≤ w6.heap.size := by omega
    have hbn : Below wA.heap.size wA w6 := by rw [hw]; exact (by ((repeat (first | ((with_reducible refine Below.alloc ?_ ?_ _); rotate_left 1; (focus (first | omega | (simp; done) | (simp; omega)))) | (with_reducible refine Below.drew ?_) | ((with_reducible refine Below.setCell ?_ ?_ _); rotate_left 1; (focus (first | omega | (simp; done) | (simp; omega)))))); exact Below.refl _ _))
    replace HB := Lib.hid (below_then HB.out hbn HB.out.size)
    replace HOK := Lib.hid (HOK.out.below hbn)
    replace HOP := Lib.hid (HOP.out.below hbn)
    replace HXl := Lib.hid (HXl.out.below hbn)
    clear hxl hfl hkl
    have hxl := HXl.out.2.1
    have hfl := HXl.out.2.2
    have hkl := HXl.out.1
    clear hbn
    clear hw
    have hcl2 := (HOP.out.strEq HTE.out HHT.out).2
    have hb3 := (HOP.out.strEq HTE.out HHT.out).1
    try simp only [Act.put, List.setIfInBounds_toArray, List.set_cons_zero, List.set_cons_succ]
    obtain ⟨F, HF⟩ : ∃ F : Facts, Hid (F = fun iq xq tqs dsq uq => match iq with
     | 0 => xq.v = .agg #[.slice E ne ce]
     | 1 => xq.v = .slice T nt ct
     | 2 => xq.v = .int .i64 (j : Int)
     | 3 => xq.v = .pointer (some ⟨b2, off + j, none⟩)
     | 4 => xq.v = .string t
     | 5 => ∃ (LA : Option Addr) (lc : Nat), xq.v = .slice LA c0 lc ∧ (Own uq xq.s xq.e LA (ints q))
     | 6 => (match tqs, dsq with | [], [yq0] => ∃ (LA : Option Addr) (lc : Nat), yq0.v = .slice LA c0 lc ∧ xq.v = .slice LA c0 lc | _, _ => False)
     | _ => False) := ⟨_, rfl⟩
    refine wp_region_facts [[], [], [], [], [], [], [5]] [[], [], [], [], [], [], []] [some 32, some 33, some 34, some 35, some 36, some 37, some 9] none 0 0 (.inl rfl) F (by kernel_rfl) (by kernel_rfl) (by kernel_rfl) ?_ ⟨?_, ?_, ?_, ?_, ?_, ?_, ?_, trivial⟩ ?_
    ·rw [HF.out]; intro iq xq tqs dsq uq u' hi hf hs hW hx hbk
     have kx : ∀ b, xq.s ≤ b → b < xq.e → u'.heap[b]? = uq.heap[b]? := fun b h1 h2 => hbk b (.inr (.inl ⟨h1, h2⟩))
     have kt : ∀ t ∈ tqs, ∀ b, t.s ≤ b → b < t.e → u'.heap[b]? = uq.heap[b]? := fun t ht b h1 h2 => hbk b (.inr (.inr ⟨t, ht, h1, h2⟩))
     match iq with
     | 0 => exact hf
     | 1 => exact hf
     | 2 => exact hf
     | 3 => exact hf
     | 4 => exact hf
     | 5 => obtain ⟨LA, lc, hv, p0⟩ := hf; exact ⟨LA, lc, hv, p0.keep hs kx⟩
     | 6 => exact hf
    ·intro gh ρ u hc hf1 hg1 hd h0 hb he ha hF
     replace hb : Below w6.heap.size w6 u := hb.drew.below (by decide +kernel)
     have hbz : w6.heap.size ≤ u.heap.size := hb.size
     have r4 : ρ (.tmp 4) = .pointer (some ⟨w2.heap.size + 1, 0, none⟩) := (h0 4 (by decide +kernel)).trans rfl
     have q_l := (HXl.out.below hb).2.1
     have k_l : w2.heap.size + 1 < u.heap.size := by have := HXl.out.1; omega
     replace hcl2 := cell_later hb hcl2
     clear  hd h0 he ha hF
     go_simp
     rw [HF.out]
     exact ⟨OnlyL.refl _ _, rfl⟩
    ·intro gh ρ u hc hf1 hg1 hd h0 hb he ha hF
     have r5 : ρ (.tmp 5) = .slice T nt ct := (h0 5 (by decide +kernel)).trans rfl
     clear  hd h0 he ha hF
     go_simp
     rw [HF.out]
     exact ⟨OnlyL.refl _ _, rfl⟩
    ·intro gh ρ u hc hf1 hg1 hd h0 hb he ha hF
     have r7 : ρ (.tmp 7) = .int .i64 (j : Int) := (h0 7 (by decide +kernel)).trans rfl
     clear  hd h0 he ha hF
     go_simp
     rw [HF.out]
     exact ⟨OnlyL.refl _ _, rfl⟩
    ·intro gh ρ u hc hf1 hg1 hd h0 hb he ha hF
     have r33 : ρ (.tmp 33) = .slice T nt ct := by have h := hF 1 (by decide +kernel) (by decide +kernel); rw [HF.out] at h; exact (hd 1 (by decide +kernel) 33 (by kernel_rfl)).trans h
     have r34 : ρ (.tmp 34) = .int .i64 (j : Int) := by have h := hF 2 (by decide +kernel) (by decide +kernel); rw [HF.out] at h; exact (hd 2 (by decide +kernel) 34 (by kernel_rfl)).trans h
     clear  hd h0 he ha hF
     go_simp
     rw [HF.out]
     exact ⟨OnlyL.refl _ _, rfl⟩
    ·intro gh ρ u hc hf1 hg1 hd h0 hb he ha hF
     replace hb : Below w6.heap.size w6 u := hb.drew.below (by decide +kernel)
     have hbz : w6.heap.size ≤ u.heap.size := hb.size
     have r35 : ρ (.tmp 35) = .pointer (some ⟨b2, off + j, none⟩) := by have h := hF 3 (by decide +kernel) (by decide +kernel); rw [HF.out] at h; exact (hd 3 (by decide +kernel) 35 (by kernel_rfl)).trans h
     have q_l := (HXl.out.below hb).2.1
     have k_l : w2.heap.size + 1 < u.heap.size := by have := HXl.out.1; omega
     replace hcl2 := cell_later hb hcl2
     clear  hd h0 he ha hF
     go_simp
     rw [HF.out]
     exact ⟨OnlyL.refl _ _, rfl⟩
    ·intro gh ρ u hc hf1 hg1 hd h0 hb he ha hF
     replace hb : Below w6.heap.size w6 u := hb.drew.below (by decide +kernel)
     have hbz : w6.heap.size ≤ u.heap.size := hb.size
     have r32 : ρ (.tmp 32) = .agg #[.slice E ne ce] := by have h := hF 0 (by decide +kernel) (by decide +kernel); rw [HF.out] at h; exact (hd 0 (by decide +kernel) 32 (by kernel_rfl)).trans h
     have r36 : ρ (.tmp 36) = .string t := by have h := hF 4 (by decide +kernel) (by decide +kernel); rw [HF.out] at h; exact (hd 4 (by decide +kernel) 36 (by kernel_rfl)).trans h
     clear  hd h0 he ha hF
     go_simp
     have q_l := (HXl.out.below hb)
     refine (HLV2.out _ (HOK.out.below hb).base).mono ?_
     rintro e u1 ⟨LA, lc, rfl, ho, hb1⟩
     rw [HF.out]
     exact ⟨_, rfl, OnlyL.of_below hb1, LA, lc, rfl, ho⟩
    ·intro gh ρ u hc hf1 hg1 hd h0 hb he ha hF
     have f5 : ∃ (LA : Option Addr) (lc : Nat), (gh 5).v = .slice LA c0 lc ∧ (Own u (gh 5).s (gh 5).e LA (ints q)) := by have h := hF 5 (by decide +kernel) (by decide +kernel); rw [HF.out] at h; exact h
     obtain ⟨LA, lc, hv5, g5_0⟩ := f5
     have hrt5 := hv5
     have r37 : ρ (.tmp 37) = .slice LA c0 lc := (hd 5 (by decide +kernel) 37 (by kernel_rfl)).trans hv5
     have HRT5 := Lib.hid hrt5
     clear hv5 hrt5 hd h0 he ha hF
     go_simp
     rw [HF.out]
     exact ⟨OnlyL.refl _ _, LA, lc, HRT5.out, rfl⟩
    intro gh w7 hB hE hA hF
    replace hB : Below w6.heap.size w6 w7 := hB.below rfl
    have f0 : (gh 0).v = .agg #[.slice E ne ce] := by have h := hF 0 (by decide +kernel) (by decide +kernel); rw [HF.out] at h; exact h
    have f1 : (gh 1).v = .slice T nt ct := by have h := hF 1 (by decide +kernel) (by decide +kernel); rw [HF.out] at h; exact h
    have f2 : (gh 2).v = .int .i64 (j : Int) := by have h := hF 2 (by decide +kernel) (by decide +kernel); rw [HF.out] at h; exact h
    have f3 : (gh 3).v = .pointer (some ⟨b2, off + j, none⟩) := by have h := hF 3 (by decide +kernel) (by decide +kernel); rw [HF.out] at h; exact h
    have f4 : (gh 4).v = .string t := by have h := hF 4 (by decide +kernel) (by decide +kernel); rw [HF.out] at h; exact h
    have f5 : ∃ (LA : Option Addr) (lc : Nat), (gh 5).v = .slice LA c0 lc ∧ (Own w7 (gh 5).s (gh 5).e LA (ints q)) := by have h := hF 5 (by decide +kernel) (by decide +kernel); rw [HF.out] at h; exact h
    have f6 : ∃ (LA : Option Addr) (lc : Nat), (gh 5).v = .slice LA c0 lc ∧ (gh 6).v = .slice LA c0 lc := by have h := hF 6 (by decide +kernel) (by decide +kernel); rw [HF.out] at h; exact h
    obtain ⟨LA, lc, hv5, hoL⟩ := f5
    have hv0 := f0
    have hv1 := f1
    have hv2 := f2
    have hv3 := f3
    have hv4 := f4
    obtain ⟨LA_6, lc_6, hu5, hv6⟩ := f6
    replace hu5 := hv5.symm.trans hu5
    simp at hu5
    try simp only [and_assoc] at hu5
    obtain ⟨rfl, rfl⟩ := hu5
    obtain ⟨hs5, hse5, he5⟩ := hE 5 (by decide +kernel)
    change w6.heap.size ≤ _ at hs5
    clear hE hA hF
    simp only [putDs, Nat.reduceAdd, hv0, hv1, hv2, hv3, hv4, hv5, hv6]
    clear hv0 hv1 hv2 hv3 hv4 hv5 hv6
    generalize (gh 5).s = s7_5 at *
    generalize (gh 5).e = e7_5 at *
    clear HF
    have hb := hB
    clear hB
    have hzw7 : w6.heap.size ≤ w7.heap.size := hb.size
    have hzzw7 : w.heap.size ≤ w7.heap.size := by omega
    replace HB := Lib.hid (below_then HB.out hb HB.out.size)
    replace HOK := Lib.hid (HOK.out.below hb)
    replace HOP := Lib.hid (HOP.out.below hb)
    replace HXl := Lib.hid (HXl.out.below hb)
    clear hxl hfl hkl
    have hxl := HXl.out.2.1
    have hfl := HXl.out.2.2
    have hkl := HXl.out.1
    clear hb
    have HOL : Hid (Rd w7 (s7_5) (e7_5) (LA) (ints q)) := Lib.hid hoL.rd
    clear hoL hcl2 hb3 hix HLV2
    try simp only [Act.put, List.setIfInBounds_toArray, List.set_cons_zero, List.set_cons_succ]
    go_upto_region 12 with fail
    refine wp_named (fun w8 hw => ?_)
    have hz8 : w7.heap.size + 0 ≤ w8.heap.size := by rw [hw]; first | omega | (simp [World.setCell]; done) | (simp [World.setCell]; omega)
    have hzz8 : w.heap.size ≤ w8.heap.size := by omega
    have hbn : Below w7.heap.size w7 w8 := by rw [hw]; exact (by ((repeat (first | ((with_reducible refine Below.alloc ?_ ?_ _); rotate_left 1; (focus (first | omega | (simp; done) | (simp; omega)))) | (with_reducible refine Below.drew ?_) | ((with_reducible refine Below.setCell ?_ ?_ _); rotate_left 1; (focus (first | omega | (simp; done) | (simp; omega)))))); exact Below.refl _ _))
    replace HB := Lib.hid (below_then HB.out hbn HB.out.size)
    replace HOK := Lib.hid (HOK.out.below hbn)
    replace HOP := Lib.hid (HOP.out.below hbn)
    replace HOL := Lib.hid (HOL.out.below hbn)
    replace HXl := Lib.hid (HXl.out.below hbn)
    clear hxl hfl hkl
    have hxl := HXl.out.2.1
    have hfl := HXl.out.2.2
    have hkl := HXl.out.1
    clear hbn
    clear hw
    have e1 : ((c0 : Int) != (c0 : Int)) = false := by simp
    have e2 : decide ((c0 : Int) < 1) = false := decide_eq_false (by omega)
    rcases Nat.eq_zero_or_pos j with hj0 | hj0
    case' inl =>
     have e3 : decide (0 < (j : Int)) = false := decide_eq_false (by omega)
     refine wp_region_later (by kernel_rfl) (by kernel_rfl) ?_
     repeat (go_big_quiet_step (fail))
     refine wpQuiet_nil ?_
     intro wB h9
     clear e1 e2 e3 hj0
    case' inr =>
     obtain ⟨j1, hj1⟩ : ∃ j1, j = j1 + 1 := ⟨j - 1, by omega⟩
     obtain ⟨s1, hs1⟩ : ∃ s1, ts[j1]? = some s1 := ⟨_, List.getElem?_eq_getElem (by rw [HNT.out]; omega)⟩
     have hup := HT3.out j1 s1 t hs1 (by rw [← hj1]; exact HHT.out)
     have e3 : decide (0 < (j : Int)) = true := decide_eq_true (by omega)
     have e4 : Op.bytesLess s1.toList t.toList = true := by rw [bytesLess_eq, ByteArray.toList_eq, ByteArray.toList_eq]; exact decide_eq_true hup
     have e5 : IntKind.i64.wrap ((j : Int) - 1) = (j1 : Int) := by rw [IntKind.wrap_i64]; omega
     have hix := HIX.out
     have hix1 := idxStrT T b2 off nt ct j1 HTE.out (by omega)
     have tc0 := HOP.out.strEq HTE.out HHT.out
     have tc : ∀ v : Later w8, v.v.cell? ⟨b2, off + j, none⟩ = some (.string t) := fun v => (later_cell v _ _ tc0.1).trans tc0.2
     have td0 := HOP.out.strEq HTE.out hs1
     have td : ∀ v : Later w8, v.v.cell? ⟨b2, off + j1, none⟩ = some (.string s1) := fun v => (later_cell v _ _ td0.1).trans td0.2
     clear tc0 td0 hs1 hup hj1
     refine wp_region_later (by kernel_rfl) (by kernel_rfl) ?_
     repeat (go_big_quiet_step (fail))
     refine wpQuiet_nil ?_
     intro wB h9
     clear e1 e2 e3 e4 e5 hix hix1 tc td hj0
    all_goals
     have hb9 := later_below h9
     have hzwB : w8.heap.size ≤ wB.heap.size := hb9.size
     have hzzwB : w.heap.size ≤ wB.heap.size := by omega
     replace HB := Lib.hid (below_then HB.out hb9 HB.out.size)
     replace HOK := Lib.hid (HOK.out.below hb9)
     replace HOP := Lib.hid (HOP.out.below hb9)
     replace HOL := Lib.hid (HOL.out.below hb9)
     replace HXl := Lib.hid (HXl.out.below hb9)
     clear hxl hfl hkl
     have hxl := HXl.out.2.1
     have hfl := HXl.out.2.2
     have hkl := HXl.out.1
     clear h9 hb9
     go_wp2
     refine wp_named (fun w9 hw => ?_)
     have hz9 : wB.heap.size + 0 ≤ w9.heap.size := by rw [hw]; first | omega | (simp [World.setCell]; done) | (simp [World.setCell]; omega)
     have hzz9 : w.heap.size ≤ w9.heap.size := by omega
     have hbn : Below wB.heap.size wB w9 := by rw [hw]; exact (by ((repeat (first | ((with_reducible refine Below.alloc ?_ ?_ _); rotate_left 1; (focus (first | omega | (simp; done) | (simp; omega)))) | (with_reducible refine Below.drew ?_) | ((with_reducible refine Below.setCell ?_ ?_ _); rotate_left 1; (focus (first | omega | (simp; done) | (simp; omega)))))); exact Below.refl _ _))
     replace HB := Lib.hid (below_then HB.out hbn HB.out.size)
     replace HOK := Lib.hid (HOK.out.below hbn)
     replace HOP := Lib.hid (HOP.out.below hbn)
     replace HOL := Lib.hid (HOL.out.below hbn)
     replace HXl := Lib.hid (HXl.out.below hbn)
     clear hxl hfl hkl
     have hxl := HXl.out.2.1
     have hfl := HXl.out.2.2
     have hkl := HXl.out.1
     clear hbn
     clear hw
     go_loopw [10] (fun kk wx => ∃ i : Nat, i ≤ c0 ∧ kk = .int .i64 i ∧ NewBox wx ((w2.heap.size + 1)) [.slice E ne ce] ∧ Rd wx 0 wx.heap.size E (ents es) ∧ Rd wx 0 wx.heap.size T (strs ts) ∧ Rd wx 0 wx.heap.size LA (ints q) ∧ Below w.heap.size w wx) (fun kk _ => c0 - (intOf kk).toNat)
     case atStart => exact ⟨0, Nat.zero_le _, rfl, HXl.out, HOK.out.base, HOP.out.base, HOL.out.base, HB.out⟩
     case round =>
      obtain ⟨wi, rfl⟩ : ∃ wi : World, wi = wr := ⟨_, rfl⟩
      obtain ⟨i, hi, rfl, hbx, hrk, hrp, hrl, hbl⟩ := hrel
      replace HB : Hid (Below w.heap.size w wi) := Lib.hid hbl
      replace HXl : Hid (NewBox wi (w2.heap.size + 1) [.slice E ne ce]) := Lib.hid hbx
      clear hxl hfl hkl
      have hxl := HXl.out.2.1
      have hfl := HXl.out.2.2
      have hkl := HXl.out.1
      replace HOK : Hid (Rd wi (0) (wi.heap.size) (E) (ents es)) := Lib.hid hrk
      replace HOP : Hid (Rd wi (0) (wi.heap.size) (T) (strs ts)) := Lib.hid hrp
      replace HOL : Hid (Rd wi (0) (wi.heap.size) (LA) (ints q)) := Lib.hid hrl
      have hzz_wi : w.heap.size ≤ wi.heap.size := HB.out.size
      clear hbx hrk hrp hrl hbl
      by_cases hlt2 : i < c0
      ·have hI2 : (i : Int) < c0 := by omega
       obtain ⟨v, hv⟩ : ∃ v, q[i]? = some v := ⟨_, List.getElem?_eq_getElem (by rw [HQ1.out]; exact hlt2)⟩
       obtain ⟨b3, o3, hLA, _, _⟩ := HOL.out.at_ (j := i) (by rw [ints_len, HQ1.out]; exact hlt2)
       have HLE := Lib.hid hLA
       clear hLA
       have HLF1 := HLF.out t (i : Int)
       rw [(HQ2.out i v hv).1] at HLF1
       replace HLF1 := Lib.hid HLF1
       go_wp2_with fail
       refine wp_named (fun w10 hw => ?_)
       have hz10 : wi.heap.size + 0 ≤ w10.heap.size := by rw [hw]; first | omega | (simp [World.setCell]; done) | (simp [World.setCell]; omega)
       have hzz10 : w.heap.size ≤ w10.heap.size := by omega
       have hbn : Below wi.heap.size wi w10 := by rw [hw]; exact (by ((repeat (first | ((with_reducible refine Below.alloc ?_ ?_ _); rotate_left 1; (focus (first | omega | (simp; done) | (simp; omega)))) | (with_reducible refine Below.drew ?_) | ((with_reducible refine Below.setCell ?_ ?_ _); rotate_left 1; (focus (first | omega | (simp; done) | (simp; omega)))))); exact Below.refl _ _))
       replace HB := Lib.hid (below_then HB.out hbn HB.out.size)
       replace HOK := Lib.hid (HOK.out.below hbn)
       replace HOP := Lib.hid (HOP.out.below hbn)
       replace HOL := Lib.hid (HOL.out.below hbn)
       replace HXl := Lib.hid (HXl.out.below hbn)
       clear hxl hfl hkl
       have hxl := HXl.out.2.1
       have hfl := HXl.out.2.2
       have hkl := HXl.out.1
       clear hbn
       clear hw
       have HLF2 := Lib.hid (fun x : Later w10 => HLF1.out x.v (HOK.out.below x.h).base)
       have hix := HIX.out
       have hiy := idxIntT LA b3 o3 c0 lc i HLE.out hlt2
       have tc0 := HOP.out.strEq HTE.out HHT.out
       have tc : ∀ v : Later w10, v.v.cell? ⟨b2, off + j, none⟩ = some (.string t) := fun v => (later_cell v _ _ tc0.1).trans tc0.2
       have td0 := HOL.out.intEq HLE.out hv
       have td : ∀ x : Later w10, x.v.cell? ⟨b3, o3 + i, none⟩ = some (.int .i64 v) := fun x => (later_cell x _ _ td0.1).trans td0.2
       have t0 : ∀ v : Later w10, v.v.cell? ⟨(w2.heap.size + 1), 0, none⟩ = some (.slice E ne ce) := fun v => (later_cell v _ _ hkl).trans (hxl 0)
       have e1 : (v != v) = false := by simp
       clear tc0 td0
       rcases Nat.eq_zero_or_pos i with hj0 | hj0
       case' inl =>
        have e3 : decide (0 < i) = false := decide_eq_false (by omega)
        have e6 : ¬ 0 < i := by omega
        clear hv hj0
        refine wp_region_later (by kernel_rfl) (by kernel_rfl) ?_
        repeat (go_big_quiet_step ((with_reducible exact later_call (HLF2.out _))))
        refine wpQuiet_nil ?_
        intro wB h9
        clear e1 e3 e6 hix hiy tc td t0 HLF2 HLF1
       case' inr =>
        obtain ⟨i1, hi1⟩ : ∃ i1, i = i1 + 1 := ⟨i - 1, by omega⟩
        obtain ⟨u, hu⟩ : ∃ u, q[i1]? = some u := ⟨_, List.getElem?_eq_getElem (by rw [HQ1.out]; omega)⟩
        have hup := HQ3.out i1 u v hu (by rw [← hi1]; exact hv)
        have e3 : decide (0 < i) = true := decide_eq_true (by omega)
        have e4 : decide (v ≤ u) = false := decide_eq_false (by omega)
        have e5 : IntKind.i64.wrap ((i : Int) - 1) = (i1 : Int) := by rw [IntKind.wrap_i64]; omega
        have hiz := idxIntT LA b3 o3 c0 lc i1 HLE.out (by omega)
        have te0 := HOL.out.intEq HLE.out hu
        have te : ∀ x : Later w10, x.v.cell? ⟨b3, o3 + i1, none⟩ = some (.int .i64 u) := fun x => (later_cell x _ _ te0.1).trans te0.2
        clear te0 hv hu hup hi1
        refine wp_region_later (by kernel_rfl) (by kernel_rfl) ?_
        repeat (go_big_quiet_step ((with_reducible exact later_call (HLF2.out _))))
        refine wpQuiet_nil ?_
        intro wB h9
        clear e1 e3 e4 e5 hix hiy hiz tc td te t0 HLF2 HLF1 hj0
       all_goals
        have hb9 := later_below h9
        have hzwB : w10.heap.size ≤ wB.heap.size := hb9.size
        have hzzwB : w.heap.size ≤ wB.heap.size := by omega
        replace HB := Lib.hid (below_then HB.out hb9 HB.out.size)
        replace HOK := Lib.hid (HOK.out.below hb9)
        replace HOP := Lib.hid (HOP.out.below hb9)
        replace HOL := Lib.hid (HOL.out.below hb9)
        replace HXl := Lib.hid (HXl.out.below hb9)
        clear hxl hfl hkl
        have hxl := HXl.out.2.1
        have hfl := HXl.out.2.2
        have hkl := HXl.out.1
        clear h9 hb9 HLE
        go_wp2
        go_roundw
        case rel => exact ⟨i + 1, by omega, by go_num, HXl.out, HOK.out.base, HOP.out.base, HOL.out.base, HB.out⟩
        case measure => simp [intOf]; omega
      ·have hI2 : ¬ (i : Int) < c0 := by omega
       have hsb : (sj : Int) + c0 ≤ 24 := by omega
       go_wp2
       go_roundw
       case rel => exact ⟨j + 1, by omega, by go_num, by rw [HSTK.out]; go_num, HXl.out, HOK.out.base, HOP.out.base, HB.out⟩
       case measure => simp [intOf]; omega
   ·have hI : ¬ (j : Int) < nt := by omega
    have hsj2 : sumC es (ts.take j) = ne := by rw [List.take_of_length_le (by rw [HNT.out]; omega)]; exact HSUM.out
    generalize sumC es (ts.take j) = sj at *
    have e0 : ((sj : Int) == (ne : Int)) = true := beq_iff_eq.2 (by omega)
    clear hsj2
    go_wp2
    refine wp_named (fun w6 hw => ?_)
    have hz6 : wo.heap.size + 0 ≤ w6.heap.size := by rw [hw]; first | omega | (simp [World.setCell]; done) | (simp [World.setCell]; omega)
    have hzz6 : w.heap.size ≤ w6.heap.size := by omega
    have hbn : Below wo.heap.size wo w6 := by rw [hw]; exact (by ((repeat (first | ((with_reducible refine Below.alloc ?_ ?_ _); rotate_left 1; (focus (first | omega | (simp; done) | (simp; omega)))) | (with_reducible refine Below.drew ?_) | ((with_reducible refine Below.setCell ?_ ?_ _); rotate_left 1; (focus (first | omega | (simp; done) | (simp; omega)))))); exact Below.refl _ _))
    replace HB := Lib.hid (below_then HB.out hbn HB.out.size)
    replace HOK := Lib.hid (HOK.out.below hbn)
    replace HOP := Lib.hid (HOP.out.below hbn)
    replace HXl := Lib.hid (HXl.out.below hbn)
    clear hxl hfl hkl
    have hxl := HXl.out.2.1
    have hfl := HXl.out.2.2
    have hkl := HXl.out.1
    clear hbn
    clear hw
    go_loopw [11] (fun ii wx => ∃ i : Nat, i ≤ ne ∧ ii = .int .i64 i ∧ NewBox wx ((w2.heap.size + 1)) [.slice E ne ce] ∧ Rd wx 0 wx.heap.size E (ents es) ∧ Below w.heap.size w wx) (fun ii _ => ne - (intOf ii).toNat)
    case atStart => exact ⟨0, Nat.zero_le _, rfl, HXl.out, HOK.out.base, HB.out⟩
    case round =>
     obtain ⟨wi, rfl⟩ : ∃ wi : World, wi = wr := ⟨_, rfl⟩
     obtain ⟨i, hi, rfl, hbx, hrk, hbl⟩ := hrel
     replace HB : Hid (Below w.heap.size w wi) := Lib.hid hbl
     replace HXl : Hid (NewBox wi (w2.heap.size + 1) [.slice E ne ce]) := Lib.hid hbx
     clear hxl hfl hkl
     have hxl := HXl.out.2.1
     have hfl := HXl.out.2.2
     have hkl := HXl.out.1
     replace HOK : Hid (Rd wi (0) (wi.heap.size) (E) (ents es)) := Lib.hid hrk
     clear HOP
     have hzz_wi : w.heap.size ≤ wi.heap.size := HB.out.size
     clear hbx hrk hbl
     by_cases hlt2 : i < ne
     ·have hI2 : (i : Int) < ne := by omega
      go_wp2_with fail
      refine wp_named (fun w7 hw => ?_)
      have hz7 : wi.heap.size + 0 ≤ w7.heap.size := by rw [hw]; first | omega | (simp [World.setCell]; done) | (simp [World.setCell]; omega)
      have hzz7 : w.heap.size ≤ w7.heap.size := by omega
      have hbn : Below wi.heap.size wi w7 := by rw [hw]; exact (by ((repeat (first | ((with_reducible refine Below.alloc ?_ ?_ _); rotate_left 1; (focus (first | omega | (simp; done) | (simp; omega)))) | (with_reducible refine Below.drew ?_) | ((with_reducible refine Below.setCell ?_ ?_ _); rotate_left 1; (focus (first | omega | (simp; done) | (simp; omega)))))); exact Below.refl _ _))
      replace HB := Lib.hid (below_then HB.out hbn HB.out.size)
      replace HOK := Lib.hid (HOK.out.below hbn)
      replace HXl := Lib.hid (HXl.out.below hbn)
      clear hxl hfl hkl
      have hxl := HXl.out.2.1
      have hfl := HXl.out.2.2
      have hkl := HXl.out.1
      clear hbn
      clear hw
      obtain ⟨b3, off, x, hEe, hb3, hks, d0, d1, _⟩ := ent_cells HOK.out (k := i) (by rw [HNE.out]; exact hlt2)
      have hix := idxEnt E b3 off ne ce i hEe hlt2
      have HLF1 := HLF.out x.topic x.index
      rw [HLA.out i x hks] at HLF1
      have HLF2 := Lib.hid (fun v : Later w7 => HLF1 v.v (HOK.out.below v.h).base)
      have td : ∀ v : Later w7, v.v.cell? ⟨b3, off + i * 5, none⟩ = some (.string x.topic) := fun v => (later_cell v _ _ hb3).trans d0
      have te : ∀ v : Later w7, v.v.cell? ⟨b3, off + i * 5 + 1, none⟩ = some (.int .i64 x.index) := fun v => (later_cell v _ _ hb3).trans d1
      have t0 : ∀ v : Later w7, v.v.cell? ⟨(w2.heap.size + 1), 0, none⟩ = some (.slice E ne ce) := fun v => (later_cell v _ _ hkl).trans (hxl 0)
      have e1 : ((i : Int) != (i : Int)) = false := by simp
      clear hEe hks d0 d1 HLF1
      refine wp_region_later (by kernel_rfl) (by kernel_rfl) ?_
      repeat (go_big_quiet_step ((first | with_reducible exact later_call (HLF2.out _))))
      refine wpQuiet_nil ?_
      intro wC h9
      have hb9 := later_below h9
      have hzwC : w7.heap.size ≤ wC.heap.size := hb9.size
      have hzzwC : w.heap.size ≤ wC.heap.size := by omega
      replace HB := Lib.hid (below_then HB.out hb9 HB.out.size)
      replace HOK := Lib.hid (HOK.out.below hb9)
      replace HXl := Lib.hid (HXl.out.below hb9)
      clear hxl hfl hkl
      have hxl := HXl.out.2.1
      have hfl := HXl.out.2.2
      have hkl := HXl.out.1
      clear h9 hb9 e1 hix td te t0 HLF2
      go_wp2
      go_roundw
      case rel => exact ⟨i + 1, by omega, by go_num, HXl.out, HOK.out.base, HB.out⟩
      case measure => simp [intOf]; omega
     ·have hI2 : ¬ (i : Int) < ne := by omega
      go_wp2_with fail
      refine calls_named (fun w7 hw => ?_)
      have hz7 : wi.heap.size + 0 ≤ w7.heap.size := by rw [hw]; first | omega | (simp [World.setCell]; done) | (simp [World.setCell]; omega)
      have hzz7 : w.heap.size ≤ w7.heap.size := by omega
      have hbn : Below wi.heap.size wi w7 := by rw [hw]; exact (by ((repeat (first | ((with_reducible refine Below.alloc ?_ ?_ _); rotate_left 1; (focus (first | omega | (simp; done) | (simp; omega)))) | (with_reducible refine Below.drew ?_) | ((with_reducible refine Below.setCell ?_ ?_ _); rotate_left 1; (focus (first | omega | (simp; done) | (simp; omega)))))); exact Below.refl _ _))
      replace HB := Lib.hid (below_then HB.out hbn HB.out.size)
      replace HOK := Lib.hid (HOK.out.below hbn)
      replace HXl := Lib.hid (HXl.out.below hbn)
      clear hxl hfl hkl
      have hxl := HXl.out.2.1
      have hfl := HXl.out.2.2
      have hkl := HXl.out.1
      clear hbn
      clear hw
      refine (HLO.out _ HOK.out.base).mono ?_
      rintro e w8 ⟨rfl, hb⟩
      have hzw8 : w7.heap.size ≤ w8.heap.size := hb.size
      have hzzw8 : w.heap.size ≤ w8.heap.size := by omega
      replace HB := Lib.hid (below_then HB.out hb HB.out.size)
      replace HOK := Lib.hid (HOK.out.below hb)
      replace HXl := Lib.hid (HXl.out.below hb)
      clear hxl hfl hkl
      have hxl := HXl.out.2.1
      have hfl := HXl.out.2.2
      have hkl := HXl.out.1
      clear hb
      go_wp2
      go_ret
      exact ⟨rfl, HB.out⟩
end Go.Proofs.Ytoccjgcokffkbaa
