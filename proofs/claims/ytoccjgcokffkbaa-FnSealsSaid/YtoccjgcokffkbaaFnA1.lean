/- CallsMost, Raws, WriteOk, DiskNew. -/
import Derived.Test.YtoccjgcokffkbaaNum
import Derived.Test.YtoccjgcokffkbaaWDisk
import Derived.Test.YtoccjgcokffkbaaSWrite
namespace Go.Proofs.Ytoccjgcokffkbaa
set_option linter.unusedVariables false
set_option linter.unusedSimpArgs false
open Go.RowKit

def callsMost (a b : Int) : Int := if inR a 0 512 && inR b 0 512 then a + b + 36 else -1
set_option maxRecDepth 100000 in
set_option maxHeartbeats 400000 in
theorem implCallsMost_c (a b : Int) (w : World) (ha : I64 a) (hb : I64 b) : Calls Try.prog 27 #[.int .i64 a, .int .i64 b] w fun e w' => e = .returned (.int .i64 (callsMost a b)) ∧ Below w.heap.size w w' := by
 obtain ⟨ha1, ha2⟩ := ha
 obtain ⟨hb1, hb2⟩ := hb
 go_enter Try.func27, Try.ntmps27
 go_wp2_with fail
 refine (isSize_c a _).mono ?_
 rintro e w1 ⟨rfl, rfl⟩
 rcases h1 : inR a 0 512 with _ | _
 ·go_wp2
  go_ret
  exact ⟨ret_int (by rw [callsMost, h1]; rfl), Below.refl _ _⟩
 ·have k1 := inR_true.1 h1
  go_wp2_with fail
  refine (isSize_c b _).mono ?_
  rintro e w1 ⟨rfl, rfl⟩
  rcases h2 : inR b 0 512 with _ | _
  ·go_wp2
   go_ret
   exact ⟨ret_int (by rw [callsMost, h1, h2]; rfl), Below.refl _ _⟩
  ·have k2 := inR_true.1 h2
   go_wp2
   go_ret
   exact ⟨ret_int (by rw [callsMost, h1, h2]; rfl), Below.refl _ _⟩

def raws (l : List Wri) : Int := if l.length ≤ 600 then (sumBy Wri.bulk l : Nat) else 0


end Go.Proofs.Ytoccjgcokffkbaa
