/- Part 5 of the proof of FnDeeds: lemmas and contracts. -/
import Derived.Test.YtoccjgcokffkbaaGreatTd4
import Derived.Shelf.Strings.Repeat
import Derived.Ground.NamesProg
import Derived.Lib.Agree
import Derived.Test.YtoccjgcokffkbaaGreatProg
import Derived.Shelf.Strings.BuilderF
namespace Go.Proofs.YtoccjgcokffkbaaGreat
set_option linter.unusedVariables false
set_option linter.unusedSimpArgs false
set_option maxHeartbeats 20000000
section
open Go.Shelf Go.RowKit
def bP : Go.Shelf.Ren := ⟨fun | 105 => 205 | 212 => 211 | 99 => 212 | 165 => 213 | 166 => 153 | 170 => 152 | 169 => 154 | 263 => 215 | 264 => 216 | 206 => 217 | 240 => 189 | 241 => 218 | 276 => 208 | 277 => 219 | n => n, fun | 9 => 9 | 3 => 3 | 4 => 4 | 20 => 20 | 0 => 0 | 46 => 161 | 109 => 257 | 5 => 5 | 72 => 198 | 76 => 203 | 51 => 215 | 146 => 261 | 53 => 249 | 148 => 263 | 70 => 196 | 37 => 22 | 75 => 202 | 127 => 240 | 164 => 255 | 80 => 205 | n => n, fun | n => n⟩
theorem fT : Go.Proofs.Lays.n105 Tryz.prog bP := {
 mixed := by kernel_rfl
 f99 := Tryz.func212.trans (congrArg some (by kernel_rfl))
 f105 := Tryz.func205.trans (congrArg some (by kernel_rfl))
 f165 := Tryz.func213.trans (congrArg some (by kernel_rfl))
 f166 := Tryz.func153.trans (congrArg some (by kernel_rfl))
 f169 := Tryz.func154.trans (congrArg some (by kernel_rfl))
 f170 := Tryz.func152.trans (congrArg some (by kernel_rfl))
 f206 := Tryz.func217.trans (congrArg some (by kernel_rfl))
 f212 := Tryz.func211.trans (congrArg some (by kernel_rfl))
 f240 := Tryz.func189.trans (congrArg some (by kernel_rfl))
 f241 := Tryz.func218.trans (congrArg some (by kernel_rfl))
 f263 := Tryz.func215.trans (congrArg some (by kernel_rfl))
 f264 := Tryz.func216.trans (congrArg some (by kernel_rfl))
 f276 := Tryz.func208.trans (congrArg some (by kernel_rfl))
 f277 := Tryz.func219.trans (congrArg some (by kernel_rfl))
 t0 := Tryz.underlying0
 a0 := Tryz.isAgg0
 z0 := Tryz.sizeOf0
 v0 := Tryz.zeroValue0
 t3 := Tryz.underlying3
 a3 := Tryz.isAgg3
 z3 := Tryz.sizeOf3
 v3 := Tryz.zeroValue3
 t4 := Tryz.underlying4
 a4 := Tryz.isAgg4
 z4 := Tryz.sizeOf4
 v4 := Tryz.zeroValue4
 t5 := Tryz.underlying5
 a5 := Tryz.isAgg5
 z5 := Tryz.sizeOf5
 v5 := Tryz.zeroValue5
 t9 := Tryz.underlying9
 a9 := Tryz.isAgg9
 z9 := Tryz.sizeOf9
 v9 := Tryz.zeroValue9
 t20 := Tryz.underlying20
 a20 := Tryz.isAgg20
 z20 := Tryz.sizeOf20
 v20 := Tryz.zeroValue20
 t37 := Tryz.underlying22
 a37 := Tryz.isAgg22
 z37 := Tryz.sizeOf22
 v37 := Tryz.zeroValue22
 t46 := Tryz.underlying161
 a46 := Tryz.isAgg161
 z46 := Tryz.sizeOf161
 v46 := Tryz.zeroValue161
 t51 := Tryz.underlying215
 a51 := Tryz.isAgg215
 z51 := Tryz.sizeOf215
 v51 := Tryz.zeroValue215
 t53 := Tryz.underlying249
 a53 := Tryz.isAgg249
 z53 := Tryz.sizeOf249
 v53 := Tryz.zeroValue249
 t70 := Tryz.underlying196
 a70 := Tryz.isAgg196
 z70 := Tryz.sizeOf196
 v70 := Tryz.zeroValue196
 t72 := Tryz.underlying198
 a72 := Tryz.isAgg198
 z72 := Tryz.sizeOf198
 v72 := Tryz.zeroValue198
 t75 := Tryz.underlying202
 a75 := Tryz.isAgg202
 z75 := Tryz.sizeOf202
 v75 := Tryz.zeroValue202
 t76 := Tryz.underlying203
 a76 := Tryz.isAgg203
 z76 := Tryz.sizeOf203
 v76 := Tryz.zeroValue203
 t109 := Tryz.underlying257
 a109 := Tryz.isAgg257
 z109 := Tryz.sizeOf257
 v109 := Tryz.zeroValue257
 t127 := Tryz.underlying240
 a127 := Tryz.isAgg240
 z127 := Tryz.sizeOf240
 v127 := Tryz.zeroValue240
 t146 := Tryz.underlying261
 a146 := Tryz.isAgg261
 z146 := Tryz.sizeOf261
 v146 := Tryz.zeroValue261
 t148 := Tryz.underlying263
 a148 := Tryz.isAgg263
 z148 := Tryz.sizeOf263
 v148 := Tryz.zeroValue263
 t164 := Tryz.underlying255
 a164 := Tryz.isAgg255
 z164 := Tryz.sizeOf255
 v164 := Tryz.zeroValue255 }
theorem extraRepeat : Builder.Extra Tryz.prog bP where
 sizeBuilder := by kernel_rfl
 liesBuilder := by kernel_rfl
 t5 := fT.t5
 a5 := fT.a5
 z5 := fT.z5
 v5 := fT.v5
 infoByte := by kernel_rfl
 cellsByte := by kernel_rfl
 sizeByte := by kernel_rfl
 neB5 := by decide
theorem fRepeat : bP.f 105 = 205 := by kernel_rfl
theorem Repeat_c (s : ByteArray) (c : Nat) (w : World) (hc : c ≤ 1000000) (hs : s.size * c ≤ 1000000) :
  Calls Tryz.prog 205 #[.string s, .int .i64 c] w fun e w' => e = .returned (.string ⟨(Lib.repeatL s.data.toList c).toArray⟩) ∧ Below w.heap.size w w' := by
 have h := Any.strings_Repeat fT extraRepeat s c w (by omega) (by omega)
 rw [fRepeat] at h
 exact h
theorem fWrite : bP.f 166 = 153 := by kernel_rfl
theorem fString : bP.f 169 = 154 := by kernel_rfl
theorem tBld : bP.t 72 = 198 := by kernel_rfl
theorem tByte : bP.t 5 = 5 := by kernel_rfl
abbrev IsBld (B b : Nat) (l : List UInt8) (w : World) : Prop := Lib.IsBuilderF 198 5 B b (Lib.byteCells l) w
theorem bld_new (w : World) : IsBld w.heap.size w.heap.size [] (w.alloc (.cells #[.pointer none, .slice none 0 0] 198)) := Lib.IsBuilderF.of (Lib.fresh_isBuilder 198 5 w)
theorem cells_append (l : List UInt8) (s : ByteArray) : Lib.byteCells l ++ Lib.strCells s = Lib.byteCells (l ++ s.data.toList) := by simp [Lib.byteCells, Lib.strCells]
theorem Write_c (B b : Nat) (l : List UInt8) (s : ByteArray) (w : World) (h : IsBld B b l w) (hlen : l.length + s.size ≤ 100000000) (hBw : B ≤ w.heap.size) :
  Calls Tryz.prog 153 #[.pointer (some ⟨b, 0, none⟩), .string s] w fun e w' => e = .returned (.tuple #[.int .i64 s.size, .nilIface]) ∧ IsBld B b (l ++ s.data.toList) w' ∧ Below B w w' := by
 have hl : (Lib.byteCells l).length + s.size ≤ 140737488355328 := by simp [Lib.byteCells]; omega
 have h' : Lib.IsBuilderF (bP.t 72) (bP.t 5) B b (Lib.byteCells l) w := by rw [tBld, tByte]; exact h
 have := Any.Builder_WriteString_f { fT with } extraRepeat B b (Lib.byteCells l) s w h' hl hBw
 rw [tBld, tByte, fWrite] at this
 refine this.mono fun e w' hh => ⟨hh.1, ?_, hh.2.2⟩
 have h2 := hh.2.1
 rw [cells_append] at h2
 exact Or.inr h2
theorem String_c (B b : Nat) (l : List UInt8) (w : World) (h : IsBld B b l w) (hBw : B ≤ w.heap.size) :
  Calls Tryz.prog 154 #[.pointer (some ⟨b, 0, none⟩)] w fun e w' => e = .returned (.string ⟨l.toArray⟩) ∧ Below B w w' := by
 have h' : Lib.IsBuilderF (bP.t 72) (bP.t 5) B b (Lib.byteCells l) w := by rw [tBld, tByte]; exact h
 have := Any.Builder_String_any_f { fT with } extraRepeat B b l w h' hBw
 rw [tBld, tByte, fString] at this
 exact this.mono fun e w' hh => ⟨hh.1, hh.2.2⟩
end
section
open Go.RowKit
def zerosT (c : Nat) : ByteArray := ⟨(Lib.repeatL [0] c).toArray⟩
def padT (n : Nat) : ByteArray := ⟨#[128]⟩ ++ zerosT ((119 - n % 64) % 64) ++ aZ 0 ++ aZ n
theorem zerosT_size (c : Nat) : (zerosT c).size = c := by
 show (Lib.repeatL [0] c).toArray.size = c
 simp [Lib.repeatL_length]
theorem dD (x : Int) : (aZ x).size = 4 := rfl
set_option maxRecDepth 100000 in
theorem padOf_c (n : Nat) (w : World) (hn : n ≤ 4000) : Calls Tryz.prog 174 #[.int .i64 n] w fun e w' => e = .returned (.string (padT n)) ∧ Below w.heap.size w w' := by
 obtain ⟨z, hz⟩ : ∃ z, z = (119 - n % 64) % 64 := ⟨_, rfl⟩
 have hz2 : z < 64 := by omega
 have E0 : (n : Int).tmod 64 = (n % 64 : Nat) := by rw [Int.tmod_eq_emod_of_nonneg (by omega)]; omega
 obtain ⟨m, hm⟩ : ∃ m, m = n % 64 := ⟨_, rfl⟩
 rw [← hm] at E0 hz
 have E1 : (119 - (m : Int)).tmod 64 = z := by rw [Int.tmod_eq_emod_of_nonneg (by omega)]; omega
 have hm2 : m < 64 := by omega
 have hR := fun W => Repeat_c ⟨#[0]⟩ z W (by omega) (by show 1 * z ≤ _; omega)
 have hP : padT n = ⟨#[128]⟩ ++ zerosT z ++ aZ 0 ++ aZ n := by rw [hz, hm]; rfl
 have HR := lH hR
 have HP := lH hP
 have h1 : ((⟨#[128]⟩ : ByteArray)).size = 1 := rfl
 have h2 := zerosT_size z
 have h3 := dD 0
 have h4 := dD n
 have hW0 := fun W => gM 0 W (by omega)
 have hWn := fun W => gM n W (by omega)
 have HW0 := lH hW0
 have HWn := lH hWn
 clear hW0 hWn
 have HA : Hid (∀ n : Int, 0 ≤ n → n ≤ 4000 → n / 4294967296 % 4294967296 = 0 ∧ n % 4294967296 = n) := fun n _ _ => by omega
 clear hz hm hR hP
 go_enter Tryz.func174, Tryz.ntmps174
 go_wp2_with fail
 refine (HR.out _).mono ?_
 rintro e w1 ⟨rfl, hb1⟩
 have HB1 := lH hb1
 clear hb1
 rw [show (⟨(Lib.repeatL [0] z).toArray⟩ : ByteArray) = zerosT z from rfl]
 generalize zerosT z = r at *
 have c1 := fun (W : World) => run_string_add_sum (P := Tryz.prog) W ⟨#[128]⟩ r (by omega)
 go_wp2_with fail
 rw [show (n : Int) / 4294967296 = 0 by omega]
 refine (HW0.out _).mono ?_
 rintro e w2 ⟨rfl, hb2⟩
 have HB2 := lH (ak HB1.out hb2 HB1.out.size)
 clear hb2
 have s1 : ((⟨#[128]⟩ : ByteArray) ++ r).size = 1 + z := by rw [ByteArray.size_append, h1, h2]
 generalize (⟨#[128]⟩ : ByteArray) ++ r = p1 at *
 generalize aZ 0 = q0 at *
 have c2 := fun (W : World) => run_string_add_sum (P := Tryz.prog) W p1 q0 (by omega)
 clear c1 h1 h2 HR HB1
 go_wp2_with fail
 refine (HWn.out _).mono ?_
 rintro e w3 ⟨rfl, hb3⟩
 have HB3 := lH (ak HB2.out hb3 HB2.out.size)
 clear hb3
 have s2 : (p1 ++ q0).size = 1 + z + 4 := by rw [ByteArray.size_append, s1, h3]
 generalize p1 ++ q0 = p2 at *
 generalize aZ n = q1 at *
 have c3 := fun (W : World) => run_string_add_sum (P := Tryz.prog) W p2 q1 (by omega)
 clear c2 s1 h3 HB2
 go_wp2
 go_ret
 exact ⟨by rw [HP.out]; rfl, HB3.out⟩
def gB (l : List Int) : List UInt8 := l.flatMap fun x => (aZ x).data.toList
def textT (l : List Int) : ByteArray := ⟨(gB l).toArray⟩
theorem textW_take {l : List Int} {k : Nat} {x : Int} (h : l[k]? = some x) : gB (l.take (k + 1)) = gB (l.take k) ++ (aZ x).data.toList := by
 rw [bI h, gB, List.flatMap_append]
 simp [gB]
theorem textW_len (l : List Int) : (gB l).length = 4 * l.length := by
 induction l with
 | nil => rfl
 | cons x r ih =>
   show ((aZ x).data.toList ++ gB r).length = _
   rw [List.length_append, ih, Array.length_toList]
   show 4 + _ = 4 * (r.length + 1)
   omega
theorem Rd.wd {w : World} {lo hi : Nat} {A : Option Addr} {l : List Int} (h : Rd w lo hi A (ws l)) {k : Nat} (hk : k < l.length) :
  ∃ b off, A = some ⟨b, off, none⟩ ∧ b < w.heap.size ∧ w.cell? ⟨b, off + k, none⟩ = some (.int .u32 l[k]) := by
 obtain ⟨b, off, h1, h2, h3⟩ := h.at_ (j := k) (by rw [ws_len]; exact hk)
 exact ⟨b, off, h1, h2, h3 k _ (ws_get (List.getElem?_eq_getElem hk))⟩
theorem bldAt_below {T e : TypeId} {B b : Nat} {p : Value} {bs : List Value} {w w' : World} (h : Lib.BuilderAtF T e B b p bs w) (k : Below w.heap.size w w') : Lib.BuilderAtF T e B b p bs w' := by
 have hlt := h.lt
 obtain ⟨hB, v, hb, hown, hne⟩ := h
 exact ⟨hB, v, (k.block b hlt).trans hb, hown.kept (row := none) ⟨k.os, k.tape, k.output, k.size, fun j hj _ => k.block j hj⟩ (by cases hv : v.ownBlock <;> simp), hne⟩
theorem bld_below {B b : Nat} {l : List UInt8} {w w' : World} (h : IsBld B b l w) (k : Below w.heap.size w w') : IsBld B b l w' := h.elim (fun x => .inl (bldAt_below x k)) (fun x => .inr (bldAt_below x k))
set_option maxRecDepth 100000 in
theorem TextOf_c (A : Option Addr) (c lo hi n : Nat) (l : List Int) (w : World) (hr : Rd w lo hi A (ws l)) (hn : l.length = n) (hl : n ≤ 1000) (hw : ∀ x ∈ l, 0 ≤ x ∧ x < 4294967296) :
  Calls Tryz.prog 202 #[.slice A n c] w fun e w' => e = .returned (.tuple #[.string (textT l), .bool true]) ∧ Below w.heap.size w w' := by
 have HR := lH hr.base
 have HN := lH hn
 have HW := lH hw
 clear hr hn hw
 go_enter Tryz.func202, Tryz.ntmps202
 go_wp2_with fail
 have hb0 := bld_new w
 go_loopw [12] (fun i wx => ∃ k : Nat, k ≤ n ∧ i = .int .i64 k ∧ Below w.heap.size w wx ∧ IsBld w.heap.size w.heap.size (gB (l.take k)) wx) (fun i _ => n - (intOf i).toNat)
 case atStart => exact ⟨0, Nat.zero_le _, rfl, (Below.refl _ _).alloc (Nat.le_refl _) _, hb0⟩
 case round =>
  clear hb0; obtain ⟨k, hk, rfl, hb, hx⟩ := hrel
  have HB := lH hb
  have HX := lH hx
  clear hb hx
  by_cases hlt : k < n
  ·have hkl : k < l.length := by rw [HN.out]; exact hlt
   obtain ⟨b, off, rfl, hbz, hcell⟩ := (HR.out.below HB.out).wd hkl
   have hxw := HW.out _ (List.getElem_mem hkl)
   have HT := lH (textW_take (List.getElem?_eq_getElem hkl))
   have hz : (gB (l.take k)).length = 4 * k := by rw [textW_len, List.length_take]; omega
   have HZ := lH hz
   clear hz
   generalize l[k] = x at *
   go_wp2_with fail
   refine (gM x _ hxw).mono ?_
   rintro e w1 ⟨rfl, hb1⟩
   have HB1 := lH (ak HB.out hb1 HB.out.size)
   have hx1 : IsBld w.heap.size w.heap.size (gB (l.take k)) w1 := bld_below HX.out hb1
   have HX1 := lH hx1
   clear hb1 hx1 HX
   go_wp2_with fail
   refine (Write_c w.heap.size w.heap.size _ (aZ x) _ HX1.out (by rw [HZ.out]; show _ + 4 ≤ _; omega) HB1.out.size).mono ?_
   rintro e w2 ⟨rfl, hx2, hb2⟩
   rw [← HT.out] at hx2
   have HX2 := lH hx2
   have HB2 : Hid (Below w.heap.size w w2) := HB1.out.trans hb2
   clear hx2 hb2; go_wp2
   go_round
   case rel => exact ⟨k + 1, by omega, by go_num, HB2.out, HX2.out⟩
   case measure => simp [intOf]; omega
  obtain rfl : k = n := by omega
  go_wp2_with fail
  refine (String_c w.heap.size w.heap.size _ _ HX.out HB.out.size).mono ?_
  rintro e w2 ⟨rfl, hb2⟩
  have HB2 : Hid (Below w.heap.size w w2) := HB.out.trans hb2
  clear hb2; go_wp2
  have hl : l.take k = l := List.take_of_length_le (by rw [HN.out]; exact Nat.le_refl _)
  rw [hl]
  refine bodyPost_ret (v := .tuple #[.string (textT l), .bool true]) (by simp [results, Tryz.results202, go_sem, textT]) rfl ?_
  exact ⟨rfl, HB2.out⟩
theorem textT_size (l : List Int) : (textT l).size = 4 * l.length := by
 show (gB l).toArray.size = _
 rw [List.size_toArray, textW_len]
def chainT (width : Nat) (l : List Int) : ByteArray := (textT l).extract 0 width
def digT (width tag : Int) (t : ByteArray) : ByteArray := chainT width.toNat (cK (fJ tag) (t ++ padT t.size) ((t ++ padT t.size).size / 64))
def bM (width tag : Int) (t : ByteArray) : Bool := inR width 1 32 && inR tag 0 255 && decide (t.size ≤ 4000)
def eD (width tag : Int) (t : ByteArray) : ByteArray := if bM width tag t then digT width tag t else ByteArray.empty
theorem aa.rdW {w : World} {k : Nat} {l : List Int} (h : aa w k (ws l)) : Rd w 0 w.heap.size (some ⟨k, 0, none⟩) (ws l) := fun _ =>
 ⟨k, 0, rfl, Nat.zero_le _, h.1, Nat.le_refl _, fun j u hu => by rw [Nat.zero_add]; exact h.cell hu⟩
theorem fw_w (tag : Int) (i : Int) : 0 ≤ fw tag i ∧ fw tag i < 4294967296 := by unfold fw; omega
theorem firstW_wds (tag : Int) : Wds 8 (fJ tag) := ⟨firstW_len tag, fun x hx => by
 obtain ⟨i, _, rfl⟩ := List.mem_map.1 hx
 exact fw_w _ _⟩
theorem padT_size (n : Nat) : (padT n).size = 1 + (119 - n % 64) % 64 + 4 + 4 := by
 rw [padT, ByteArray.size_append, ByteArray.size_append, ByteArray.size_append, zerosT_size, dD, dD]; rfl
set_option maxRecDepth 100000 in
theorem chainText_c (width : Nat) (l : List Int) (w : World) (hw : width ≤ 32) (hl : Wds 8 l) : Calls Tryz.prog 171 #[.int .i64 width, .agg (ws l).toArray] w fun e w' => e = .returned (.string (chainT width l)) ∧ Below w.heap.size w w' := by
 have hM : ∀ W, W = w.alloc (.cells (ws l).toArray 225) → aa W w.heap.size (ws l) ∧ Below w.heap.size w W := by
  rintro W rfl
  exact ⟨aa.new w _ _, (Below.refl _ _).alloc (Nat.le_refl _) _⟩
 have HM := lH hM
 clear hM
 obtain ⟨a0, a1, a2, a3, a4, a5, a6, a7, es⟩ := list8 hl.1
 have hsz : (textT l).size = 32 := by rw [textT_size, hl.1]
 have hC : chainT width l = (textT l).extract 0 width := rfl
 have HC := lH hC
 have HL := lH hl
 have HES := lH es
 have hsz2 : ((textT l).size : Int) = 32 := by omega
 generalize htx : textT l = tx at *
 have HTXE := lH htx
 have hw2 : (width : Int) ≤ 32 := by omega
 go_enter Tryz.func171, Tryz.ntmps171
 simp only [es, ws, List.map_cons, List.map_nil]
 clear hl es hC htx
 go_wp2_with fail
 refine af fun W hW => ?_
 obtain ⟨hN, hB⟩ := HM.out W (by rw [hW, HES.out]; rfl)
 clear hW
 refine (TextOf_c (some ⟨w.heap.size, 0, none⟩) 8 _ _ 8 l W hN.rdW HL.out.1 (by omega) HL.out.2).mono ?_
 rintro e w1 ⟨rfl, hb1⟩
 rw [HTXE.out]
 have HB := lH (ak hB hb1 hB.size)
 clear hN hB hb1
 go_wp2
 go_ret
 exact ⟨by rw [← HES.out, HC.out]; rfl, HB.out⟩
set_option maxRecDepth 100000 in
theorem gP (width tag : Int) (t : ByteArray) (w : World) (ht : t.size ≤ maxLen) : Calls Tryz.prog 123 #[.int .i64 width, .int .i64 tag, .string t] w fun e w' => e = .returned (.tuple #[.string (eD width tag t), .bool (bM width tag t)]) ∧ Below w.heap.size w w' := by
 unfold maxLen at ht
 have hbad : bM width tag t = false → (.tuple #[.string (eD width tag t), .bool (bM width tag t)] : Value) = .tuple #[.string ⟨#[]⟩, .bool false] := fun h => by rw [eD, h]; rfl
 have HBAD := lH hbad
 clear hbad
 go_enter Tryz.func123, Tryz.ntmps123
 go_wp2_with fail
 refine (isWidth_c width _).mono ?_
 rintro e w1 ⟨rfl, rfl⟩
 rcases hq1 : inR width 1 32 with _ | _
 ·have hd : bM width tag t = false := by rw [bM, hq1]; rfl
  have HD := lH (HBAD.out hd)
  go_wp2
  refine bodyPost_ret (v := .tuple #[.string ⟨#[]⟩, .bool false]) (by simp [results, Tryz.results123, go_sem]) rfl ?_
  exact ⟨by rw [HD.out], Below.refl _ _⟩
 have HQ1 := lH hq1
 clear hq1
 go_wp2_with fail
 refine (isTag_c tag _).mono ?_
 rintro e w1 ⟨rfl, rfl⟩
 rcases hq2 : inR tag 0 255 with _ | _
 ·have hd : bM width tag t = false := by rw [bM, HQ1.out, hq2]; rfl
  have HD := lH (HBAD.out hd)
  go_wp2
  refine bodyPost_ret (v := .tuple #[.string ⟨#[]⟩, .bool false]) (by simp [results, Tryz.results123, go_sem]) rfl ?_
  exact ⟨by rw [HD.out], Below.refl _ _⟩
 have HQ2 := lH hq2
 clear hq2
 rcases (show t.size ≤ 4000 ∨ 4000 < t.size by omega) with h3 | h3
 ·have hd : bM width tag t = true := by rw [bM, HQ1.out, HQ2.out, decide_eq_true h3]; rfl
  obtain ⟨wi, rfl⟩ : ∃ n : Nat, width = n := ⟨width.toNat, by have := az.1 HQ1.out; omega⟩
  have hr := az.1 HQ2.out
  have hwi : wi ≤ 32 := by have := az.1 HQ1.out; omega
  have hm : eD wi tag t = digT wi tag t := by rw [eD, hd]; rfl
  have hv : digT wi tag t = chainT wi (cK (fJ tag) (t ++ padT t.size) ((t ++ padT t.size).size / 64)) := by rw [digT, Int.toNat_natCast]
  have HV := lH (hm.trans hv)
  have HD := lH hd
  clear hd hm hv HBAD
  go_wp2_with fail
  refine (firstState_c tag _ hr.1 hr.2).mono ?_
  rintro e w1 ⟨rfl, hb1⟩
  have HB1 := lH hb1
  clear hb1
  go_wp2_with fail
  refine (padOf_c t.size _ h3).mono ?_
  rintro e w2 ⟨rfl, hb2⟩
  have HB2 := lH (ak HB1.out hb2 HB1.out.size)
  have hpz : (padT t.size).size ≤ 80 := by rw [padT_size]; omega
  have hts : (t ++ padT t.size).size ≤ 5000 := by rw [ByteArray.size_append]; omega
  have hca := fun (W : World) => run_string_add_sum (P := Tryz.prog) W t (padT t.size) (by omega)
  have hMX := fun W => mixAll_c (fJ tag) (t ++ padT t.size) W (firstW_wds tag) (by omega)
  have hmw := mixText_w (firstW_wds tag) (t ++ padT t.size) ((t ++ padT t.size).size / 64)
  have HMW := lH hmw
  have HMX := lH hMX
  clear hb2 HB1 hmw hMX; generalize padT t.size = pd at *
  generalize t ++ pd = tt at *
  go_wp2_with fail
  refine (HMX.out _).mono ?_
  rintro e w3 ⟨rfl, hb3⟩
  have HB3 := lH (ak HB2.out hb3 HB2.out.size)
  clear hb3 HB2
  go_wp2_with fail
  refine (chainText_c wi _ _ hwi HMW.out).mono ?_
  rintro e w4 ⟨rfl, hb4⟩
  have HB4 := lH (ak HB3.out hb4 HB3.out.size)
  clear hb4 HB3
  rw [← HV.out]
  go_wp2
  refine bodyPost_ret (v := .tuple #[.string (eD wi tag t), .bool true]) (by simp [results, Tryz.results123, go_sem]) rfl ?_
  exact ⟨by rw [HD.out], HB4.out⟩
 have hd : bM width tag t = false := by rw [bM, decide_eq_false (by omega), Bool.and_false]
 have HD := lH (HBAD.out hd)
 go_wp2
 refine bodyPost_ret (v := .tuple #[.string ⟨#[]⟩, .bool false]) (by simp [results, Tryz.results123, go_sem]) rfl ?_
 exact ⟨by rw [HD.out], Below.refl _ _⟩
end
end Go.Proofs.YtoccjgcokffkbaaGreat
