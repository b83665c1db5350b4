/- A row of cells stays where a block that is no cells turns. -/
import Derived.Test.YtcfohdkdppiekaaKit
import Derived.Test.YtcfohdkdppiekaaRange
namespace Go.Proofs.Ytcfohdkdppiekaa
open Go Go.RowKit
theorem arr_bears {b : Nat} {T : TypeId} {xs : List Value} {W : World} {l : Nat} {o o' : Obj} (ho : W.heap[l]? = some o) (hc : o.isCells = false) (h : arr W b T xs) : arr (W.putObj l o') b T xs := by
  unfold Go.Proofs.Ytcfohdkdppiekaa.arr at *
  rw [World.putObj_heap_other]; exact h
  rintro rfl
  rw [h] at ho; cases ho; cases hc
end Go.Proofs.Ytcfohdkdppiekaa
