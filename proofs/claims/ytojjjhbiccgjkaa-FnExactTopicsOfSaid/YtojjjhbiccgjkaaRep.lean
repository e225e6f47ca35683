/- strings.Repeat, by the shelf's contract. -/
import Derived.Test.YtojjjhbiccgjkaaBytes
import Derived.Shelf.Strings.Repeat
import Derived.Ground.NamesProg
import Derived.Lib.Agree
namespace Go.Proofs.Ytojjjhbiccgjkaa
set_option linter.unusedVariables false
set_option linter.unusedSimpArgs false
open Go.Shelf Go.RowKit

def laysRepeat_ren : Go.Shelf.Ren := ⟨fun | 105 => 201 | 212 => 230 | 99 => 231 | 165 => 232 | 166 => 113 | 170 => 112 | 169 => 114 | 263 => 242 | 264 => 243 | 206 => 244 | 240 => 169 | 241 => 245 | 276 => 203 | 277 => 247 | n => n, fun | 9 => 9 | 3 => 3 | 4 => 4 | 20 => 20 | 0 => 0 | 46 => 174 | 109 => 230 | 5 => 5 | 72 => 122 | 76 => 126 | 51 => 169 | 146 => 240 | 53 => 226 | 148 => 242 | 70 => 120 | 37 => 119 | 75 => 125 | 127 => 175 | 164 => 210 | 80 => 128 | n => n, fun | n => n⟩
theorem laysRepeat : Go.Proofs.Lays.n105 Try.prog laysRepeat_ren := {
  mixed := by kernel_rfl
  f99 := Try.func231.trans (congrArg some (by kernel_rfl))
  f105 := Try.func201.trans (congrArg some (by kernel_rfl))
  f165 := Try.func232.trans (congrArg some (by kernel_rfl))
  f166 := Try.func113.trans (congrArg some (by kernel_rfl))
  f169 := Try.func114.trans (congrArg some (by kernel_rfl))
  f170 := Try.func112.trans (congrArg some (by kernel_rfl))
  f206 := Try.func244.trans (congrArg some (by kernel_rfl))
  f212 := Try.func230.trans (congrArg some (by kernel_rfl))
  f240 := Try.func169.trans (congrArg some (by kernel_rfl))
  f241 := Try.func245.trans (congrArg some (by kernel_rfl))
  f263 := Try.func242.trans (congrArg some (by kernel_rfl))
  f264 := Try.func243.trans (congrArg some (by kernel_rfl))
  f276 := Try.func203.trans (congrArg some (by kernel_rfl))
  f277 := Try.func247.trans (congrArg some (by kernel_rfl))
  t0 := Try.underlying0
  a0 := Try.isAgg0
  z0 := Try.sizeOf0
  v0 := Try.zeroValue0
  t3 := Try.underlying3
  a3 := Try.isAgg3
  z3 := Try.sizeOf3
  v3 := Try.zeroValue3
  t4 := Try.underlying4
  a4 := Try.isAgg4
  z4 := Try.sizeOf4
  v4 := Try.zeroValue4
  t5 := Try.underlying5
  a5 := Try.isAgg5
  z5 := Try.sizeOf5
  v5 := Try.zeroValue5
  t9 := Try.underlying9
  a9 := Try.isAgg9
  z9 := Try.sizeOf9
  v9 := Try.zeroValue9
  t20 := Try.underlying20
  a20 := Try.isAgg20
  z20 := Try.sizeOf20
  v20 := Try.zeroValue20
  t37 := Try.underlying119
  a37 := Try.isAgg119
  z37 := Try.sizeOf119
  v37 := Try.zeroValue119
  t46 := Try.underlying174
  a46 := Try.isAgg174
  z46 := Try.sizeOf174
  v46 := Try.zeroValue174
  t51 := Try.underlying169
  a51 := Try.isAgg169
  z51 := Try.sizeOf169
  v51 := Try.zeroValue169
  t53 := Try.underlying226
  a53 := Try.isAgg226
  z53 := Try.sizeOf226
  v53 := Try.zeroValue226
  t70 := Try.underlying120
  a70 := Try.isAgg120
  z70 := Try.sizeOf120
  v70 := Try.zeroValue120
  t72 := Try.underlying122
  a72 := Try.isAgg122
  z72 := Try.sizeOf122
  v72 := Try.zeroValue122
  t75 := Try.underlying125
  a75 := Try.isAgg125
  z75 := Try.sizeOf125
  v75 := Try.zeroValue125
  t76 := Try.underlying126
  a76 := Try.isAgg126
  z76 := Try.sizeOf126
  v76 := Try.zeroValue126
  t109 := Try.underlying230
  a109 := Try.isAgg230
  z109 := Try.sizeOf230
  v109 := Try.zeroValue230
  t127 := Try.underlying175
  a127 := Try.isAgg175
  z127 := Try.sizeOf175
  v127 := Try.zeroValue175
  t146 := Try.underlying240
  a146 := Try.isAgg240
  z146 := Try.sizeOf240
  v146 := Try.zeroValue240
  t148 := Try.underlying242
  a148 := Try.isAgg242
  z148 := Try.sizeOf242
  v148 := Try.zeroValue242
  t164 := Try.underlying210
  a164 := Try.isAgg210
  z164 := Try.sizeOf210
  v164 := Try.zeroValue210 }


theorem extraRepeat : Builder.Extra Try.prog laysRepeat_ren where
  sizeBuilder := by kernel_rfl
  liesBuilder := by kernel_rfl
  t5 := laysRepeat.t5
  a5 := laysRepeat.a5
  z5 := laysRepeat.z5
  v5 := laysRepeat.v5
  infoByte := by kernel_rfl
  cellsByte := by kernel_rfl
  sizeByte := by kernel_rfl
  neB5 := by decide

theorem fRepeat : laysRepeat_ren.f 105 = 201 := by kernel_rfl
theorem Repeat_c (s : ByteArray) (c : Nat) (w : World) (hc : c ≤ 1000000) (hs : s.size * c ≤ 1000000) :
    Calls Try.prog 201 #[.string s, .int .i64 c] w fun e w' => e = .returned (.string ⟨(Lib.repeatL s.data.toList c).toArray⟩) ∧ Below w.heap.size w w' := by
  have h := Any.strings_Repeat laysRepeat extraRepeat s c w (by omega) (by omega)
  rw [fRepeat] at h
  exact h
end Go.Proofs.Ytojjjhbiccgjkaa
