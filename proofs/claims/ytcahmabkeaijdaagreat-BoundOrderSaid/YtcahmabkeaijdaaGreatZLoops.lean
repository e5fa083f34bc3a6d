/- A part of this claim's proof: plain laws: the loops of generic functions, order statistics. No conditions. -/
import Derived.Test.YtcahmabkeaijdaaGreatZPure
set_option linter.all false
namespace Sep
open Go Go.RowKit
set_option linter.unusedSectionVars false
variable [Rnd]
/-! ### plain laws of the loops that the library's generic functions make -/
theorem y5c {α : Type} [Inhabited α] {l : List α} {i : Int} (h0 : 0 ≤ i) (h : i < l.length) : nth l i ∈ l := by
 rw [← y66 h0 h]; exact List.getElem_mem _
theorem take_succ {α : Type} [Inhabited α] (l : List α) {i : Int} (h0 : 0 ≤ i) (h : i < l.length) : l.take (i + 1).toNat = l.take i.toNat ++ [nth l i] := by
 rw [show (i + 1).toNat = i.toNat + 1 from by omega, List.take_succ_eq_append_getElem (by omega), y66 h0 h]
/-! ### order statistics -/
end Sep
