/- SealMore of the program: the function itself. -/
import Derived.Test.YtmmepogjocfefaaGreatSealI
namespace Go.Proofs.YtmmepogjocfefaaGreat
set_option linter.unusedVariables false
set_option linter.unusedSimpArgs false
open Go.RowKit

theorem rng_box {w : World} {base o m : Nat} {n : Int} {v : Value} {l : List ByteArray} (cs : Array Value) (T : TypeId) (hT : T ≠ 9) (h : w.ownsRow base 9 1 v m (strs l)) (h0 : cs.toList[o]? = some (.int .i64 n)) (h1 : cs.toList[o + 1]? = some v) :
  RngAt (w.alloc (.cells cs T)) base w.heap.size o n v m l := by
 have hx := NewBox.new w cs T
 exact ⟨⟨_, T, heap_alloc_new w _, hT⟩, hx.cell (o := o) h0, hx.cell (o := o + 1) h1, h.alloc _⟩
end Go.Proofs.YtmmepogjocfefaaGreat
