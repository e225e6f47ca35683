/- Sort and Compact of strings, laid at this seat. -/
import Derived.Test.YtojjjhbiccgjkaaLogOk
import Derived.Shelf.Sort.Plain
import Derived.Shelf.Slices.CompactS
import Derived.Shelf.Slices.In.SortNone
import Derived.Test.YtojjjhbiccgjkaaTop
import Derived.Test.YtojjjhbiccgjkaaGrwa
import Derived.Ground.NamesProg
import Derived.Lib.Agree
namespace Go.Proofs.Ytojjjhbiccgjkaa
set_option linter.unusedVariables false
set_option linter.unusedSimpArgs false
open Go.Shelf Go.RowKit

def laysSort_ren : Go.Shelf.Ren := ⟨fun | 190 => 143 | 125 => 189 | 258 => 188 | 128 => 220 | 129 => 221 | 302 => 211 | 303 => 212 | 304 => 213 | 305 => 214 | 306 => 215 | 307 => 216 | 308 => 217 | 309 => 218 | 310 => 219 | 333 => 233 | 329 => 234 | 330 => 235 | 334 => 236 | 335 => 237 | 336 => 238 | 344 => 246 | n => n, fun | 31 => 39 | 9 => 9 | 3 => 3 | 46 => 174 | 0 => 0 | 51 => 169 | 53 => 226 | 4 => 4 | 183 => 217 | 182 => 216 | 131 => 222 | 5 => 5 | 218 => 233 | 222 => 237 | 228 => 244 | 229 => 245 | n => n, fun | n => n⟩
theorem laysSort : Go.Proofs.Lays.n190 Try.prog laysSort_ren := {
  mixed := by kernel_rfl
  f125 := Try.func189.trans (congrArg some (by kernel_rfl))
  f128 := Try.func220.trans (congrArg some (by kernel_rfl))
  f129 := Try.func221.trans (congrArg some (by kernel_rfl))
  f190 := Try.func143.trans (congrArg some (by kernel_rfl))
  f258 := Try.func188.trans (congrArg some (by kernel_rfl))
  f302 := Try.func211.trans (congrArg some (by kernel_rfl))
  f303 := Try.func212.trans (congrArg some (by kernel_rfl))
  f304 := Try.func213.trans (congrArg some (by kernel_rfl))
  f305 := Try.func214.trans (congrArg some (by kernel_rfl))
  f306 := Try.func215.trans (congrArg some (by kernel_rfl))
  f307 := Try.func216.trans (congrArg some (by kernel_rfl))
  f308 := Try.func217.trans (congrArg some (by kernel_rfl))
  f309 := Try.func218.trans (congrArg some (by kernel_rfl))
  f310 := Try.func219.trans (congrArg some (by kernel_rfl))
  f329 := Try.func234.trans (congrArg some (by kernel_rfl))
  f330 := Try.func235.trans (congrArg some (by kernel_rfl))
  f333 := Try.func233.trans (congrArg some (by kernel_rfl))
  f334 := Try.func236.trans (congrArg some (by kernel_rfl))
  f335 := Try.func237.trans (congrArg some (by kernel_rfl))
  f336 := Try.func238.trans (congrArg some (by kernel_rfl))
  f344 := Try.func246.trans (congrArg some (by kernel_rfl))
  t0 := Try.underlying0
  a0 := Try.isAgg0
  z0 := Try.sizeOf0
  v0 := Try.zeroValue0
  t3 := Try.underlying3
  a3 := Try.isAgg3
  z3 := Try.sizeOf3
  v3 := Try.zeroValue3
  t4 := Try.underlying4
  a4 := Try.isAgg4
  z4 := Try.sizeOf4
  v4 := Try.zeroValue4
  t5 := Try.underlying5
  a5 := Try.isAgg5
  z5 := Try.sizeOf5
  v5 := Try.zeroValue5
  t9 := Try.underlying9
  a9 := Try.isAgg9
  z9 := Try.sizeOf9
  v9 := Try.zeroValue9
  t31 := Try.underlying39
  a31 := Try.isAgg39
  z31 := Try.sizeOf39
  v31 := Try.zeroValue39
  t46 := Try.underlying174
  a46 := Try.isAgg174
  z46 := Try.sizeOf174
  v46 := Try.zeroValue174
  t51 := Try.underlying169
  a51 := Try.isAgg169
  z51 := Try.sizeOf169
  v51 := Try.zeroValue169
  t53 := Try.underlying226
  a53 := Try.isAgg226
  z53 := Try.sizeOf226
  v53 := Try.zeroValue226
  t131 := Try.underlying222
  a131 := Try.isAgg222
  z131 := Try.sizeOf222
  v131 := Try.zeroValue222
  t182 := Try.underlying216
  a182 := Try.isAgg216
  z182 := Try.sizeOf216
  v182 := Try.zeroValue216
  t183 := Try.underlying217
  a183 := Try.isAgg217
  z183 := Try.sizeOf217
  v183 := Try.zeroValue217
  t218 := Try.underlying233
  a218 := Try.isAgg233
  z218 := Try.sizeOf233
  v218 := Try.zeroValue233
  t222 := Try.underlying237
  a222 := Try.isAgg237
  z222 := Try.sizeOf237
  v222 := Try.zeroValue237
  t228 := Try.underlying244
  a228 := Try.isAgg244
  z228 := Try.sizeOf244
  v228 := Try.zeroValue244
  t229 := Try.underlying245
  a229 := Try.isAgg245
  z229 := Try.sizeOf245
  v229 := Try.zeroValue245 }

theorem fSort : laysSort_ren.f 190 = 143 := by kernel_rfl
def laysCompact_ren : Go.Shelf.Ren := ⟨fun | 194 => 145 | n => n, fun | 31 => 39 | 9 => 9 | 3 => 3 | 4 => 4 | 0 => 0 | n => n, fun | n => n⟩
theorem laysCompact : Go.Proofs.Lays.n194 Try.prog laysCompact_ren := {
  mixed := by kernel_rfl
  f194 := Try.func145.trans (congrArg some (by kernel_rfl))
  t0 := Try.underlying0
  a0 := Try.isAgg0
  z0 := Try.sizeOf0
  v0 := Try.zeroValue0
  t3 := Try.underlying3
  a3 := Try.isAgg3
  z3 := Try.sizeOf3
  v3 := Try.zeroValue3
  t4 := Try.underlying4
  a4 := Try.isAgg4
  z4 := Try.sizeOf4
  v4 := Try.zeroValue4
  t9 := Try.underlying9
  a9 := Try.isAgg9
  z9 := Try.sizeOf9
  v9 := Try.zeroValue9
  t31 := Try.underlying39
  a31 := Try.isAgg39
  z31 := Try.sizeOf39
  v31 := Try.zeroValue39 }

theorem fCompact : laysCompact_ren.f 194 = 145 := by kernel_rfl
open Go.Sort
/-- the text of these bytes -/
def TB (x : List UInt8) : ByteArray := ⟨x.toArray⟩
theorem compact_length_le' (zs : List (List UInt8)) : (Lib.compact zs).length ≤ zs.length := by
  unfold Lib.compact Lib.compactUpTo
  rw [List.length_map]
  exact Nat.le_trans (List.length_filter_le _ _) (by simp)
theorem strs_TB (ys : List (List UInt8)) : strs (ys.map TB) = ys.map encStr := by rw [strs, List.map_map]; rfl
theorem TB_of (s : ByteArray) : TB s.data.toList = s := rfl
/-- only block g turned -/
theorem putRow_only (w : World) (g off : Nat) (d : Array (List UInt8)) : Only g (g + 1) w (putRow encStr w g off d) := by
  refine ⟨rfl, rfl, rfl, by simp, fun k hk hd => ?_⟩
  have : ¬ g = k := by omega
  simp [putRow, mapBlock, Array.getElem?_modify, this]
theorem grow_only (w : World) (os : Array Obj) (g : Nat) : Only g (g + 1) w (grow w os) := ⟨rfl, rfl, rfl, by simp, fun k hk _ => heap_grow_old w os hk⟩
theorem ahead_only (w : World) (n g : Nat) : Only g (g + 1) w (Sort.ahead w n) := ⟨rfl, rfl, rfl, Nat.le_refl _, fun _ _ _ => rfl⟩
theorem Holds.front {w : World} {g : Nat} {a b : List (List UInt8)} (h : Holds encStr w g 0 (a ++ b).toArray) : Holds encStr w g 0 a.toArray := by
  intro j hj
  have hj' : j < a.length := by simpa using hj
  have := h j (by simp; omega)
  rw [getElem!_pos _ j (by simp; omega)] at this
  rw [getElem!_pos _ j (by simp; omega)]
  simpa [List.getElem_append_left hj'] using this
theorem Holds.own {w : World} {g : Nat} {ys : List (List UInt8)} (h : Holds encStr w g 0 ys.toArray) (hg : g < w.heap.size) (hf : ∀ j, w.frozen? ⟨g, j, none⟩ = false) : Own w g (g + 1) (some ⟨g, 0, none⟩) (strs (ys.map TB)) := by
  intro _
  refine ⟨g, 0, rfl, Nat.le_refl _, Nat.lt_succ_self _, by omega, fun j u hu => ?_, fun j => hf _⟩
  rw [strs_TB, List.getElem?_map] at hu
  obtain ⟨x, hx, rfl⟩ := Option.map_eq_some_iff.1 hu
  obtain ⟨hj, rfl⟩ := List.getElem?_eq_some_iff.1 hx
  have := (h j (by simpa using hj)).1
  rw [getElem!_pos _ j (by simpa using hj)] at this
  simpa using this
theorem srt_c (g cap n : Nat) (zs : List (List UInt8)) (w : World) (hn : zs.length = n) (hl : n ≤ 1048576) (hg : g < w.heap.size) (hH : Holds encStr w g 0 zs.toArray) (hf : ∀ j, w.frozen? ⟨g, j, none⟩ = false) :
    Calls Try.prog 143 #[.slice (some ⟨g, 0, none⟩) n cap] w fun e w' => e = .returned (.tuple #[]) ∧ Holds encStr w' g 0 (zs.mergeSort fun x y => decide (x ≤ y)).toArray ∧ (∀ j, w'.frozen? ⟨g, j, none⟩ = false) ∧ Only g (g + 1) w w' := by
  have h := Any.slices_Sort_string laysSort g 0 cap zs w hH hg (by omega)
  rw [fSort, hn] at h
  refine h.mono ?_
  rintro e w' ⟨he, q, os, rfl⟩
  have hs : (zs.mergeSort fun x y => decide (x ≤ y)).toArray.size = zs.toArray.size := by simp [List.length_mergeSort]
  refine ⟨he, holds_grow _ _ _ _ _ _ (by simpa using hg) (holds_putRow _ _ _ _ zs.toArray _ (fun j hj => hH j hj) hs), fun j => ?_, ?_⟩
  · rw [frozen?_grow _ _ _ (by simpa using hg), frozen?_putRow]; exact hf j
  · exact ((ahead_only w q g).trans (putRow_only _ g 0 _)).trans (grow_only _ os g)
theorem cmp_c (g cap n : Nat) (zs : List (List UInt8)) (w : World) (hn : zs.length = n) (hl : n ≤ 1048576) (hc : n ≤ cap) (hg : g < w.heap.size) (hH : Holds encStr w g 0 zs.toArray) (hf : ∀ j, w.frozen? ⟨g, j, none⟩ = false) :
    Calls Try.prog 145 #[.slice (some ⟨g, 0, none⟩) n cap] w fun e w' => e = .returned (.slice (some ⟨g, 0, none⟩) (Lib.compact zs).length cap) ∧ Holds encStr w' g 0 (Lib.compact zs).toArray ∧ (∀ j, w'.frozen? ⟨g, j, none⟩ = false) ∧ Only g (g + 1) w w' := by
  have h := Any.slices_Compact_string laysCompact g 0 cap zs w hH (by omega) (by omega)
  rw [fCompact, hn] at h
  refine h.mono ?_
  rintro e w' ⟨he, q, rfl⟩
  have hle := compact_length_le' zs
  have hs : (Lib.compact zs ++ List.replicate (n - (Lib.compact zs).length) []).toArray.size = zs.toArray.size := by simp; omega
  refine ⟨he, Holds.front (holds_putRow _ _ _ _ zs.toArray _ (fun j hj => hH j hj) hs), fun j => ?_, (ahead_only w q g).trans (putRow_only _ g 0 _)⟩
  rw [frozen?_putRow]; exact hf j
set_option maxRecDepth 100000 in
set_option maxHeartbeats 400000 in
theorem clip_c (g cap m : Nat) (w : World) (hc : m ≤ cap) : Calls Try.prog 144 #[.slice (some ⟨g, 0, none⟩) m cap] w fun e w' => e = .returned (.slice (some ⟨g, 0, none⟩) m m) ∧ w = w' := by
  have E1 : (m : Int) ≤ (cap : Int) := by omega
  go_enter Try.func144, Try.ntmps144
  go_wp2
  go_ret
  exact ⟨rfl, rfl⟩
set_option maxRecDepth 100000 in
set_option maxHeartbeats 400000 in
theorem clip0_c (cap : Nat) (w : World) : Calls Try.prog 144 #[.slice none 0 0] w fun e w' => e = .returned (.slice none 0 0) ∧ w = w' := by
  go_enter Try.func144, Try.ntmps144
  go_wp2
  go_ret
  exact ⟨rfl, rfl⟩
end Go.Proofs.Ytojjjhbiccgjkaa
