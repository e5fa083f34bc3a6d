/- A part of this claim's proof: plain laws: the loops of generic functions, order statistics. No conditions. -/
import Derived.Test.YtinchjigeakocaaZPure
set_option linter.all false
namespace Sep
open Go Go.RowKit
set_option linter.unusedSectionVars false
variable [Rnd]
/-! ### plain laws of the loops that the library's generic functions make -/
theorem y6f {α : Type} [Inhabited α] {l : List α} {i : Int} (h0 : 0 ≤ i) (h : i < l.length) : nth l i ∈ l := by
 rw [← y4B h0 h]; exact List.getElem_mem _
/-! ### order statistics -/
end Sep
