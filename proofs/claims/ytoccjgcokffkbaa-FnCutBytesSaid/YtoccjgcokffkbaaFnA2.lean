/- Disks: DiskNew, DiskOk, WriteOk, Put and what they stand on. -/
import Derived.Test.YtoccjgcokffkbaaNum
import Derived.Test.YtoccjgcokffkbaaKit2
import Derived.Test.YtoccjgcokffkbaaWDisk
import Derived.Test.YtoccjgcokffkbaaSWrite
namespace Go.Proofs.Ytoccjgcokffkbaa
set_option linter.unusedVariables false
set_option linter.unusedSimpArgs false
open Go.RowKit

def noFiles : List ByteArray := List.replicate 3 ByteArray.empty
set_option maxRecDepth 100000 in
set_option maxHeartbeats 400000 in
theorem specDiskNew_c (w : World) : Calls Try.prog 32 #[] w fun e w' => ∃ (A : Option Addr) (c : Nat), e = .returned (.agg #[.slice A 3 c]) ∧ Own w' w.heap.size w'.heap.size A (strs noFiles) ∧ Below w.heap.size w w' := by
 obtain ⟨i0, hi0, hz0, hz1, hz2⟩ := info_parts info_string
 go_enter Try.func32, Try.ntmps32
 go_wp2_with (at_make; refine wpList_make_full _ rfl _ _ 24 rfl w.heap.size 9 i0 _ 1 Try.underlying24 hi0 hz0 hz1 _ _ _ _ 3 rfl rfl rfl rfl (by rw [hz2]; omega) (by unfold maxLen; omega) (by simp) ?_)
 intro w1 hown hg
 simp only [Nat.mul_one, Value.cells, toList_madeCells_one] at hown
 have hb1 := ((Below.refl w.heap.size w).alloc (Nat.le_refl _) _).grown hg (by first | omega | (simp; done) | (simp; omega)) (by first | omega | (simp; done) | (simp; omega))
 have hsz := (hown.lt _ rfl).2
 have hsz2 : w.heap.size < w1.heap.size := by simp at hsz; omega
 have ho := (Own.of_ownsRow hown).tight
 have hx := (((Below.refl (w.heap.size + 1) (w.alloc (.cells #[.slice none 0 0] 26)))).grown hg (by simp) (by simp)).cell (p := ⟨w.heap.size, 0, none⟩) (by simp)
 replace hx : w1.cell? ⟨w.heap.size, 0, none⟩ = some (.slice none 0 0) := hx.trans (by go_simp)
 have hf := (((Below.refl (w.heap.size + 1) (w.alloc (.cells #[.slice none 0 0] 26)))).grown hg (by simp) (by simp)).frozen (p := ⟨w.heap.size, 0, none⟩) (by simp)
 replace hf : w1.frozen? ⟨w.heap.size, 0, none⟩ = false := hf.trans (by go_simp)
 have HG := Lib.hid hg
 have HO := Lib.hid ho
 have HBB := Lib.hid hb1
 clear hg ho hown hb1 hi0 hz0 hz1 hz2
 go_wp2
 refine bodyPost_ret (v := .agg #[.slice (some ⟨w.heap.size + 1, 0, none⟩) 3 3]) (by simp [results, Try.results32, go_sem, World.cell?_setCell_same _ _ _ hx]) rfl ?_
 refine ⟨_, ⟨_, rfl⟩, ?_, ?_⟩
 ·have hsz3 : w.heap.size + 1 < w1.heap.size := hsz
  exact (HO.out.setCell (.inl (by simp)) _).mono (by simp) (by first | omega | (simp [World.setCell]; done) | (simp [World.setCell]; omega)) (Nat.le_refl _)
 ·exact HBB.out.setCell (Nat.le_refl _) _
end Go.Proofs.Ytoccjgcokffkbaa
