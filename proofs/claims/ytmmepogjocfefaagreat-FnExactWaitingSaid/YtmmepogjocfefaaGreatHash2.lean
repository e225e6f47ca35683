/- strings.Repeat, by the shelf's contract. strings.Builder, by the shelf's contracts. The pad of a text. Words written as a text; the Digest of the program. The Digest of the program. -/
import Derived.Test.YtmmepogjocfefaaGreatHash1
import Derived.Shelf.Strings.Repeat
import Derived.Ground.NamesProg
import Derived.Lib.Agree
import Derived.Test.YtmmepogjocfefaaGreatProg
import Derived.Shelf.Strings.BuilderF
namespace Go.Proofs.YtmmepogjocfefaaGreat
set_option linter.unusedVariables false
set_option linter.unusedSimpArgs false
open Go.Shelf Go.RowKit

def laysRepeat_ren : Go.Shelf.Ren := ⟨fun | 105 => 213 | 212 => 220 | 99 => 221 | 165 => 222 | 166 => 150 | 170 => 149 | 169 => 151 | 263 => 224 | 264 => 225 | 206 => 226 | 240 => 182 | 241 => 227 | 276 => 204 | 277 => 228 | n => n, fun | 9 => 9 | 3 => 3 | 4 => 4 | 20 => 20 | 0 => 0 | 46 => 198 | 109 => 238 | 5 => 5 | 72 => 179 | 76 => 184 | 51 => 204 | 146 => 242 | 53 => 219 | 148 => 244 | 70 => 177 | 37 => 141 | 75 => 183 | 127 => 205 | 164 => 225 | 80 => 186 | n => n, fun | n => n⟩
theorem laysRepeat : Go.Proofs.Lays.n105 Tryz.prog laysRepeat_ren := {
 mixed := by kernel_rfl
 f99 := Tryz.func221.trans (congrArg some (by kernel_rfl))
 f105 := Tryz.func213.trans (congrArg some (by kernel_rfl))
 f165 := Tryz.func222.trans (congrArg some (by kernel_rfl))
 f166 := Tryz.func150.trans (congrArg some (by kernel_rfl))
 f169 := Tryz.func151.trans (congrArg some (by kernel_rfl))
 f170 := Tryz.func149.trans (congrArg some (by kernel_rfl))
 f206 := Tryz.func226.trans (congrArg some (by kernel_rfl))
 f212 := Tryz.func220.trans (congrArg some (by kernel_rfl))
 f240 := Tryz.func182.trans (congrArg some (by kernel_rfl))
 f241 := Tryz.func227.trans (congrArg some (by kernel_rfl))
 f263 := Tryz.func224.trans (congrArg some (by kernel_rfl))
 f264 := Tryz.func225.trans (congrArg some (by kernel_rfl))
 f276 := Tryz.func204.trans (congrArg some (by kernel_rfl))
 f277 := Tryz.func228.trans (congrArg some (by kernel_rfl))
 t0 := Tryz.underlying0
 a0 := Tryz.isAgg0
 z0 := Tryz.sizeOf0
 v0 := Tryz.zeroValue0
 t3 := Tryz.underlying3
 a3 := Tryz.isAgg3
 z3 := Tryz.sizeOf3
 v3 := Tryz.zeroValue3
 t4 := Tryz.underlying4
 a4 := Tryz.isAgg4
 z4 := Tryz.sizeOf4
 v4 := Tryz.zeroValue4
 t5 := Tryz.underlying5
 a5 := Tryz.isAgg5
 z5 := Tryz.sizeOf5
 v5 := Tryz.zeroValue5
 t9 := Tryz.underlying9
 a9 := Tryz.isAgg9
 z9 := Tryz.sizeOf9
 v9 := Tryz.zeroValue9
 t20 := Tryz.underlying20
 a20 := Tryz.isAgg20
 z20 := Tryz.sizeOf20
 v20 := Tryz.zeroValue20
 t37 := Tryz.underlying141
 a37 := Tryz.isAgg141
 z37 := Tryz.sizeOf141
 v37 := Tryz.zeroValue141
 t46 := Tryz.underlying198
 a46 := Tryz.isAgg198
 z46 := Tryz.sizeOf198
 v46 := Tryz.zeroValue198
 t51 := Tryz.underlying204
 a51 := Tryz.isAgg204
 z51 := Tryz.sizeOf204
 v51 := Tryz.zeroValue204
 t53 := Tryz.underlying219
 a53 := Tryz.isAgg219
 z53 := Tryz.sizeOf219
 v53 := Tryz.zeroValue219
 t70 := Tryz.underlying177
 a70 := Tryz.isAgg177
 z70 := Tryz.sizeOf177
 v70 := Tryz.zeroValue177
 t72 := Tryz.underlying179
 a72 := Tryz.isAgg179
 z72 := Tryz.sizeOf179
 v72 := Tryz.zeroValue179
 t75 := Tryz.underlying183
 a75 := Tryz.isAgg183
 z75 := Tryz.sizeOf183
 v75 := Tryz.zeroValue183
 t76 := Tryz.underlying184
 a76 := Tryz.isAgg184
 z76 := Tryz.sizeOf184
 v76 := Tryz.zeroValue184
 t109 := Tryz.underlying238
 a109 := Tryz.isAgg238
 z109 := Tryz.sizeOf238
 v109 := Tryz.zeroValue238
 t127 := Tryz.underlying205
 a127 := Tryz.isAgg205
 z127 := Tryz.sizeOf205
 v127 := Tryz.zeroValue205
 t146 := Tryz.underlying242
 a146 := Tryz.isAgg242
 z146 := Tryz.sizeOf242
 v146 := Tryz.zeroValue242
 t148 := Tryz.underlying244
 a148 := Tryz.isAgg244
 z148 := Tryz.sizeOf244
 v148 := Tryz.zeroValue244
 t164 := Tryz.underlying225
 a164 := Tryz.isAgg225
 z164 := Tryz.sizeOf225
 v164 := Tryz.zeroValue225 }


theorem extraRepeat : Builder.Extra Tryz.prog laysRepeat_ren where
 sizeBuilder := by kernel_rfl
 liesBuilder := by kernel_rfl
 t5 := laysRepeat.t5
 a5 := laysRepeat.a5
 z5 := laysRepeat.z5
 v5 := laysRepeat.v5
 infoByte := by kernel_rfl
 cellsByte := by kernel_rfl
 sizeByte := by kernel_rfl
 neB5 := by decide

theorem fRepeat : laysRepeat_ren.f 105 = 213 := by kernel_rfl
theorem Repeat_c (s : ByteArray) (c : Nat) (w : World) (hc : c ≤ 1000000) (hs : s.size * c ≤ 1000000) :
  Calls Tryz.prog 213 #[.string s, .int .i64 c] w fun e w' => e = .returned (.string ⟨(Lib.repeatL s.data.toList c).toArray⟩) ∧ Below w.heap.size w w' := by
 have h := Any.strings_Repeat laysRepeat extraRepeat s c w (by omega) (by omega)
 rw [fRepeat] at h
 exact h
end Go.Proofs.YtmmepogjocfefaaGreat

namespace Go.Proofs.YtmmepogjocfefaaGreat
set_option linter.unusedVariables false
set_option linter.unusedSimpArgs false
open Go.Shelf Go.RowKit

theorem fWrite : laysRepeat_ren.f 166 = 150 := by kernel_rfl
theorem fString : laysRepeat_ren.f 169 = 151 := by kernel_rfl
theorem tBld : laysRepeat_ren.t 72 = 179 := by kernel_rfl
theorem tByte : laysRepeat_ren.t 5 = 5 := by kernel_rfl
abbrev IsBld (B b : Nat) (l : List UInt8) (w : World) : Prop := Lib.IsBuilderF 179 5 B b (Lib.byteCells l) w
theorem bld_new (w : World) : IsBld w.heap.size w.heap.size [] (w.alloc (.cells #[.pointer none, .slice none 0 0] 179)) := Lib.IsBuilderF.of (Lib.fresh_isBuilder 179 5 w)
theorem cells_append (l : List UInt8) (s : ByteArray) : Lib.byteCells l ++ Lib.strCells s = Lib.byteCells (l ++ s.data.toList) := by simp [Lib.byteCells, Lib.strCells]
theorem Write_c (B b : Nat) (l : List UInt8) (s : ByteArray) (w : World) (h : IsBld B b l w) (hlen : l.length + s.size ≤ 100000000) (hBw : B ≤ w.heap.size) :
  Calls Tryz.prog 150 #[.pointer (some ⟨b, 0, none⟩), .string s] w fun e w' => e = .returned (.tuple #[.int .i64 s.size, .nilIface]) ∧ IsBld B b (l ++ s.data.toList) w' ∧ Below B w w' := by
 have hl : (Lib.byteCells l).length + s.size ≤ 140737488355328 := by simp [Lib.byteCells]; omega
 have h' : Lib.IsBuilderF (laysRepeat_ren.t 72) (laysRepeat_ren.t 5) B b (Lib.byteCells l) w := by rw [tBld, tByte]; exact h
 have := Any.Builder_WriteString_f { laysRepeat with } extraRepeat B b (Lib.byteCells l) s w h' hl hBw
 rw [tBld, tByte, fWrite] at this
 refine this.mono fun e w' hh => ⟨hh.1, ?_, hh.2.2⟩
 have h2 := hh.2.1
 rw [cells_append] at h2
 exact Or.inr h2
theorem String_c (B b : Nat) (l : List UInt8) (w : World) (h : IsBld B b l w) (hBw : B ≤ w.heap.size) :
  Calls Tryz.prog 151 #[.pointer (some ⟨b, 0, none⟩)] w fun e w' => e = .returned (.string ⟨l.toArray⟩) ∧ Below B w w' := by
 have h' : Lib.IsBuilderF (laysRepeat_ren.t 72) (laysRepeat_ren.t 5) B b (Lib.byteCells l) w := by rw [tBld, tByte]; exact h
 have := Any.Builder_String_any_f { laysRepeat with } extraRepeat B b l w h' hBw
 rw [tBld, tByte, fString] at this
 exact this.mono fun e w' hh => ⟨hh.1, hh.2.2⟩
end Go.Proofs.YtmmepogjocfefaaGreat

namespace Go.Proofs.YtmmepogjocfefaaGreat
set_option linter.unusedVariables false
set_option linter.unusedSimpArgs false
open Go.RowKit

def zerosT (c : Nat) : ByteArray := ⟨(Lib.repeatL [0] c).toArray⟩
def padT (n : Nat) : ByteArray := ⟨#[128]⟩ ++ zerosT ((119 - n % 64) % 64) ++ wordText 0 ++ wordText n
theorem zerosT_size (c : Nat) : (zerosT c).size = c := by
 show (Lib.repeatL [0] c).toArray.size = c
 simp [Lib.repeatL_length]
theorem wordText_size (x : Int) : (wordText x).size = 4 := rfl
set_option maxRecDepth 100000 in
set_option maxHeartbeats 400000 in
theorem padOf_c (n : Nat) (w : World) (hn : n ≤ 4000) : Calls Tryz.prog 203 #[.int .i64 n] w fun e w' => e = .returned (.string (padT n)) ∧ Below w.heap.size w w' := by
 obtain ⟨z, hz⟩ : ∃ z, z = (119 - n % 64) % 64 := ⟨_, rfl⟩
 have hz2 : z < 64 := by omega
 have E0 : (n : Int).tmod 64 = (n % 64 : Nat) := by rw [Int.tmod_eq_emod_of_nonneg (by omega)]; omega
 obtain ⟨m, hm⟩ : ∃ m, m = n % 64 := ⟨_, rfl⟩
 rw [← hm] at E0 hz
 have E1 : (119 - (m : Int)).tmod 64 = z := by rw [Int.tmod_eq_emod_of_nonneg (by omega)]; omega
 have hm2 : m < 64 := by omega
 have hR := fun W => Repeat_c ⟨#[0]⟩ z W (by omega) (by show 1 * z ≤ _; omega)
 have hP : padT n = ⟨#[128]⟩ ++ zerosT z ++ wordText 0 ++ wordText n := by rw [hz, hm]; rfl
 have HR := Lib.hid hR
 have HP := Lib.hid hP
 have h1 : ((⟨#[128]⟩ : ByteArray)).size = 1 := rfl
 have h2 := zerosT_size z
 have h3 := wordText_size 0
 have h4 := wordText_size n
 have hW0 := fun W => implWordText_c 0 W (by omega)
 have hWn := fun W => implWordText_c n W (by omega)
 have HW0 := Lib.hid hW0
 have HWn := Lib.hid hWn
 clear hW0 hWn
 have HA : Hid (∀ n : Int, 0 ≤ n → n ≤ 4000 → n / 4294967296 % 4294967296 = 0 ∧ n % 4294967296 = n) := fun n _ _ => by omega
 clear hz hm hR hP
 go_enter Tryz.func203, Tryz.ntmps203
 go_wp2_with fail
 refine (HR.out _).mono ?_
 rintro e w1 ⟨rfl, hb1⟩
 have HB1 := Lib.hid hb1
 clear hb1
 rw [show (⟨(Lib.repeatL [0] z).toArray⟩ : ByteArray) = zerosT z from rfl]
 generalize zerosT z = r at *
 have c1 := fun (W : World) => run_string_add_sum (P := Tryz.prog) W ⟨#[128]⟩ r (by omega)
 go_wp2_with fail
 rw [show (n : Int) / 4294967296 = 0 by omega]
 refine (HW0.out _).mono ?_
 rintro e w2 ⟨rfl, hb2⟩
 have HB2 := Lib.hid (below_then HB1.out hb2 HB1.out.size)
 clear hb2
 have s1 : ((⟨#[128]⟩ : ByteArray) ++ r).size = 1 + z := by rw [ByteArray.size_append, h1, h2]
 generalize (⟨#[128]⟩ : ByteArray) ++ r = p1 at *
 generalize wordText 0 = q0 at *
 have c2 := fun (W : World) => run_string_add_sum (P := Tryz.prog) W p1 q0 (by omega)
 clear c1 h1 h2 HR HB1
 go_wp2_with fail
 refine (HWn.out _).mono ?_
 rintro e w3 ⟨rfl, hb3⟩
 have HB3 := Lib.hid (below_then HB2.out hb3 HB2.out.size)
 clear hb3
 have s2 : (p1 ++ q0).size = 1 + z + 4 := by rw [ByteArray.size_append, s1, h3]
 generalize p1 ++ q0 = p2 at *
 generalize wordText n = q1 at *
 have c3 := fun (W : World) => run_string_add_sum (P := Tryz.prog) W p2 q1 (by omega)
 clear c2 s1 h3 HB2
 go_wp2
 go_ret
 exact ⟨by rw [HP.out]; rfl, HB3.out⟩
end Go.Proofs.YtmmepogjocfefaaGreat

namespace Go.Proofs.YtmmepogjocfefaaGreat
set_option linter.unusedVariables false
set_option linter.unusedSimpArgs false
open Go.RowKit

def textW (l : List Int) : List UInt8 := l.flatMap fun x => (wordText x).data.toList
def textT (l : List Int) : ByteArray := ⟨(textW l).toArray⟩
theorem textW_take {l : List Int} {k : Nat} {x : Int} (h : l[k]? = some x) : textW (l.take (k + 1)) = textW (l.take k) ++ (wordText x).data.toList := by
 rw [take_succ h, textW, List.flatMap_append]
 simp [textW]
theorem textW_len (l : List Int) : (textW l).length = 4 * l.length := by
 induction l with
 | nil => rfl
 | cons x r ih =>
   show ((wordText x).data.toList ++ textW r).length = _
   rw [List.length_append, ih, Array.length_toList]
   show 4 + _ = 4 * (r.length + 1)
   omega
theorem Rd.wd {w : World} {lo hi : Nat} {A : Option Addr} {l : List Int} (h : Rd w lo hi A (ws l)) {k : Nat} (hk : k < l.length) :
  ∃ b off, A = some ⟨b, off, none⟩ ∧ b < w.heap.size ∧ w.cell? ⟨b, off + k, none⟩ = some (.int .u32 l[k]) := by
 obtain ⟨b, off, h1, h2, h3⟩ := h.at_ (j := k) (by rw [ws_len]; exact hk)
 exact ⟨b, off, h1, h2, h3 k _ (ws_get (List.getElem?_eq_getElem hk))⟩
theorem bldAt_below {T e : TypeId} {B b : Nat} {p : Value} {bs : List Value} {w w' : World} (h : Lib.BuilderAtF T e B b p bs w) (k : Below w.heap.size w w') : Lib.BuilderAtF T e B b p bs w' := by
 have hlt := h.lt
 obtain ⟨hB, v, hb, hown, hne⟩ := h
 exact ⟨hB, v, (k.block b hlt).trans hb, hown.kept (row := none) ⟨k.os, k.tape, k.output, k.size, fun j hj _ => k.block j hj⟩ (by cases hv : v.ownBlock <;> simp), hne⟩
theorem bld_below {B b : Nat} {l : List UInt8} {w w' : World} (h : IsBld B b l w) (k : Below w.heap.size w w') : IsBld B b l w' := h.elim (fun x => .inl (bldAt_below x k)) (fun x => .inr (bldAt_below x k))

set_option maxRecDepth 100000 in
set_option maxHeartbeats 400000 in
theorem TextOf_c (A : Option Addr) (c lo hi n : Nat) (l : List Int) (w : World) (hr : Rd w lo hi A (ws l)) (hn : l.length = n) (hl : n ≤ 1000) (hw : ∀ x ∈ l, 0 ≤ x ∧ x < 4294967296) :
  Calls Tryz.prog 210 #[.slice A n c] w fun e w' => e = .returned (.tuple #[.string (textT l), .bool true]) ∧ Below w.heap.size w w' := by
 have HR := Lib.hid hr.base
 have HN := Lib.hid hn
 have HW := Lib.hid hw
 clear hr hn hw
 go_enter Tryz.func210, Tryz.ntmps210
 go_wp2_with fail
 have hb0 := bld_new w
 go_loopw [12] (fun i wx => ∃ k : Nat, k ≤ n ∧ i = .int .i64 k ∧ Below w.heap.size w wx ∧ IsBld w.heap.size w.heap.size (textW (l.take k)) wx) (fun i _ => n - (intOf i).toNat)
 case atStart => exact ⟨0, Nat.zero_le _, rfl, (Below.refl _ _).alloc (Nat.le_refl _) _, hb0⟩
 case round =>
  clear hb0
  obtain ⟨k, hk, rfl, hb, hx⟩ := hrel
  have HB := Lib.hid hb
  have HX := Lib.hid hx
  clear hb hx
  by_cases hlt : k < n
  ·have hkl : k < l.length := by rw [HN.out]; exact hlt
   obtain ⟨b, off, rfl, hbz, hcell⟩ := (HR.out.below HB.out).wd hkl
   have hxw := HW.out _ (List.getElem_mem hkl)
   have HT := Lib.hid (textW_take (List.getElem?_eq_getElem hkl))
   have hz : (textW (l.take k)).length = 4 * k := by rw [textW_len, List.length_take]; omega
   have HZ := Lib.hid hz
   clear hz
   generalize l[k] = x at *
   go_wp2_with fail
   refine (implWordText_c x _ hxw).mono ?_
   rintro e w1 ⟨rfl, hb1⟩
   have HB1 := Lib.hid (below_then HB.out hb1 HB.out.size)
   have hx1 : IsBld w.heap.size w.heap.size (textW (l.take k)) w1 := bld_below HX.out hb1
   have HX1 := Lib.hid hx1
   clear hb1 hx1 HX
   go_wp2_with fail
   refine (Write_c w.heap.size w.heap.size _ (wordText x) _ HX1.out (by rw [HZ.out]; show _ + 4 ≤ _; omega) HB1.out.size).mono ?_
   rintro e w2 ⟨rfl, hx2, hb2⟩
   rw [← HT.out] at hx2
   have HX2 := Lib.hid hx2
   have HB2 : Hid (Below w.heap.size w w2) := HB1.out.trans hb2
   clear hx2 hb2
   go_wp2
   go_round
   case rel => exact ⟨k + 1, by omega, by go_num, HB2.out, HX2.out⟩
   case measure => simp [intOf]; omega
  ·obtain rfl : k = n := by omega
   go_wp2_with fail
   refine (String_c w.heap.size w.heap.size _ _ HX.out HB.out.size).mono ?_
   rintro e w2 ⟨rfl, hb2⟩
   have HB2 : Hid (Below w.heap.size w w2) := HB.out.trans hb2
   clear hb2
   go_wp2
   have hl : l.take k = l := List.take_of_length_le (by rw [HN.out]; exact Nat.le_refl _)
   rw [hl]
   refine bodyPost_ret (v := .tuple #[.string (textT l), .bool true]) (by simp [results, Tryz.results210, go_sem, textT]) rfl ?_
   exact ⟨rfl, HB2.out⟩
end Go.Proofs.YtmmepogjocfefaaGreat

namespace Go.Proofs.YtmmepogjocfefaaGreat
set_option linter.unusedVariables false
set_option linter.unusedSimpArgs false
open Go.RowKit

theorem textT_size (l : List Int) : (textT l).size = 4 * l.length := by
 show (textW l).toArray.size = _
 rw [List.size_toArray, textW_len]
def chainT (width : Nat) (l : List Int) : ByteArray := (textT l).extract 0 width
def digT (width tag : Int) (t : ByteArray) : ByteArray := chainT width.toNat (mixText (firstW tag) (t ++ padT t.size) ((t ++ padT t.size).size / 64))
def digOk (width tag : Int) (t : ByteArray) : Bool := inR width 1 32 && inR tag 0 255 && decide (t.size ≤ 4000)
def digM (width tag : Int) (t : ByteArray) : ByteArray := if digOk width tag t then digT width tag t else ByteArray.empty
theorem NewBox.rdW {w : World} {k : Nat} {l : List Int} (h : NewBox w k (ws l)) : Rd w 0 w.heap.size (some ⟨k, 0, none⟩) (ws l) := fun _ =>
 ⟨k, 0, rfl, Nat.zero_le _, h.1, Nat.le_refl _, fun j u hu => by rw [Nat.zero_add]; exact h.cell hu⟩
theorem fw_w (tag : Int) (i : Int) : 0 ≤ fw tag i ∧ fw tag i < 4294967296 := by unfold fw; omega
theorem firstW_wds (tag : Int) : Wds 8 (firstW tag) := ⟨firstW_len tag, fun x hx => by
 obtain ⟨i, _, rfl⟩ := List.mem_map.1 hx
 exact fw_w _ _⟩
theorem padT_size (n : Nat) : (padT n).size = 1 + (119 - n % 64) % 64 + 4 + 4 := by
 rw [padT, ByteArray.size_append, ByteArray.size_append, ByteArray.size_append, zerosT_size, wordText_size, wordText_size]; rfl

set_option maxRecDepth 100000 in
set_option maxHeartbeats 400000 in
theorem chainText_c (width : Nat) (l : List Int) (w : World) (hw : width ≤ 32) (hl : Wds 8 l) : Calls Tryz.prog 200 #[.int .i64 width, .agg (ws l).toArray] w fun e w' => e = .returned (.string (chainT width l)) ∧ Below w.heap.size w w' := by
 have hM : ∀ W, W = w.alloc (.cells (ws l).toArray 222) → NewBox W w.heap.size (ws l) ∧ Below w.heap.size w W := by
  rintro W rfl
  exact ⟨NewBox.new w _ _, (Below.refl _ _).alloc (Nat.le_refl _) _⟩
 have HM := Lib.hid hM
 clear hM
 obtain ⟨a0, a1, a2, a3, a4, a5, a6, a7, es⟩ := list8 hl.1
 have hsz : (textT l).size = 32 := by rw [textT_size, hl.1]
 have hC : chainT width l = (textT l).extract 0 width := rfl
 have HC := Lib.hid hC
 have HL := Lib.hid hl
 have HES := Lib.hid es
 have hsz2 : ((textT l).size : Int) = 32 := by omega
 generalize htx : textT l = tx at *
 have HTXE := Lib.hid htx
 have hw2 : (width : Int) ≤ 32 := by omega
 go_enter Tryz.func200, Tryz.ntmps200
 simp only [es, ws, List.map_cons, List.map_nil]
 clear hl es hC htx
 go_wp2_with fail
 refine calls_named fun W hW => ?_
 obtain ⟨hN, hB⟩ := HM.out W (by rw [hW, HES.out]; rfl)
 clear hW
 refine (TextOf_c (some ⟨w.heap.size, 0, none⟩) 8 _ _ 8 l W hN.rdW HL.out.1 (by omega) HL.out.2).mono ?_
 rintro e w1 ⟨rfl, hb1⟩
 rw [HTXE.out]
 have HB := Lib.hid (below_then hB hb1 hB.size)
 clear hN hB hb1
 go_wp2
 go_ret
 exact ⟨by rw [← HES.out, HC.out]; rfl, HB.out⟩
set_option maxRecDepth 100000 in
set_option maxHeartbeats 400000 in
theorem implDigest_c (width tag : Int) (t : ByteArray) (w : World) (ht : t.size ≤ maxLen) : Calls Tryz.prog 181 #[.int .i64 width, .int .i64 tag, .string t] w fun e w' => e = .returned (.tuple #[.string (digM width tag t), .bool (digOk width tag t)]) ∧ Below w.heap.size w w' := by
 unfold maxLen at ht
 have hbad : digOk width tag t = false → (.tuple #[.string (digM width tag t), .bool (digOk width tag t)] : Value) = .tuple #[.string ⟨#[]⟩, .bool false] := fun h => by rw [digM, h]; rfl
 have HBAD := Lib.hid hbad
 clear hbad
 go_enter Tryz.func181, Tryz.ntmps181
 go_wp2_with fail
 refine (isWidth_c width _).mono ?_
 rintro e w1 ⟨rfl, rfl⟩
 rcases hq1 : inR width 1 32 with _ | _
 ·have hd : digOk width tag t = false := by rw [digOk, hq1]; rfl
  have HD := Lib.hid (HBAD.out hd)
  go_wp2
  refine bodyPost_ret (v := .tuple #[.string ⟨#[]⟩, .bool false]) (by simp [results, Tryz.results181, go_sem]) rfl ?_
  exact ⟨by rw [HD.out], Below.refl _ _⟩
 ·have HQ1 := Lib.hid hq1
  clear hq1
  go_wp2_with fail
  refine (isTag_c tag _).mono ?_
  rintro e w1 ⟨rfl, rfl⟩
  rcases hq2 : inR tag 0 255 with _ | _
  ·have hd : digOk width tag t = false := by rw [digOk, HQ1.out, hq2]; rfl
   have HD := Lib.hid (HBAD.out hd)
   go_wp2
   refine bodyPost_ret (v := .tuple #[.string ⟨#[]⟩, .bool false]) (by simp [results, Tryz.results181, go_sem]) rfl ?_
   exact ⟨by rw [HD.out], Below.refl _ _⟩
  ·have HQ2 := Lib.hid hq2
   clear hq2
   rcases (show t.size ≤ 4000 ∨ 4000 < t.size by omega) with h3 | h3
   ·have hd : digOk width tag t = true := by rw [digOk, HQ1.out, HQ2.out, decide_eq_true h3]; rfl
    obtain ⟨wi, rfl⟩ : ∃ n : Nat, width = n := ⟨width.toNat, by have := inR_true.1 HQ1.out; omega⟩
    have hr := inR_true.1 HQ2.out
    have hwi : wi ≤ 32 := by have := inR_true.1 HQ1.out; omega
    have hm : digM wi tag t = digT wi tag t := by rw [digM, hd]; rfl
    have hv : digT wi tag t = chainT wi (mixText (firstW tag) (t ++ padT t.size) ((t ++ padT t.size).size / 64)) := by rw [digT, Int.toNat_natCast]
    have HV := Lib.hid (hm.trans hv)
    have HD := Lib.hid hd
    clear hd hm hv HBAD
    go_wp2_with fail
    refine (firstState_c tag _ hr.1 hr.2).mono ?_
    rintro e w1 ⟨rfl, hb1⟩
    have HB1 := Lib.hid hb1
    clear hb1
    go_wp2_with fail
    refine (padOf_c t.size _ h3).mono ?_
    rintro e w2 ⟨rfl, hb2⟩
    have HB2 := Lib.hid (below_then HB1.out hb2 HB1.out.size)
    have hpz : (padT t.size).size ≤ 80 := by rw [padT_size]; omega
    have hts : (t ++ padT t.size).size ≤ 5000 := by rw [ByteArray.size_append]; omega
    have hca := fun (W : World) => run_string_add_sum (P := Tryz.prog) W t (padT t.size) (by omega)
    have hMX := fun W => mixAll_c (firstW tag) (t ++ padT t.size) W (firstW_wds tag) (by omega)
    have hmw := mixText_w (firstW_wds tag) (t ++ padT t.size) ((t ++ padT t.size).size / 64)
    have HMW := Lib.hid hmw
    have HMX := Lib.hid hMX
    clear hb2 HB1 hmw hMX
    generalize padT t.size = pd at *
    generalize t ++ pd = tt at *
    go_wp2_with fail
    refine (HMX.out _).mono ?_
    rintro e w3 ⟨rfl, hb3⟩
    have HB3 := Lib.hid (below_then HB2.out hb3 HB2.out.size)
    clear hb3 HB2
    go_wp2_with fail
    refine (chainText_c wi _ _ hwi HMW.out).mono ?_
    rintro e w4 ⟨rfl, hb4⟩
    have HB4 := Lib.hid (below_then HB3.out hb4 HB3.out.size)
    clear hb4 HB3
    rw [← HV.out]
    go_wp2
    refine bodyPost_ret (v := .tuple #[.string (digM wi tag t), .bool true]) (by simp [results, Tryz.results181, go_sem]) rfl ?_
    exact ⟨by rw [HD.out], HB4.out⟩
   ·have hd : digOk width tag t = false := by rw [digOk, decide_eq_false (by omega), Bool.and_false]
    have HD := Lib.hid (HBAD.out hd)
    go_wp2
    refine bodyPost_ret (v := .tuple #[.string ⟨#[]⟩, .bool false]) (by simp [results, Tryz.results181, go_sem]) rfl ?_
    exact ⟨by rw [HD.out], Below.refl _ _⟩
end Go.Proofs.YtmmepogjocfefaaGreat

