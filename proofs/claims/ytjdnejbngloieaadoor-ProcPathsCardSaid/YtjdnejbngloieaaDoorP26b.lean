/- A part of this claim's proof: models of functions, walks, plain laws. No conditions. -/
import Derived.Test.YtjdnejbngloieaaDoorP26a
namespace Go.Proofs.YtjdnejbngloieaaDoor
open Go Go.RowKit Sep
set_option linter.all false
/-! ### what one tick does -/
/-! ### what a valid instruction's operands are -/
section
variable {x : Sapi_Ins} {size : Int}
theorem vW (h : y2P x size = true) (e : x.fOp = 1) : 1 ≤ x.fA ∧ x.fA ≤ 2000 := by
 simp [y2P, e, y18, nth, fits, y3E] at h; omega
theorem vJ (h : y2P x size = true) : (x.fOp = 20 → 0 ≤ x.fA ∧ x.fA < size) ∧ (x.fOp = 21 → 0 ≤ x.fB ∧ x.fB < size) ∧ (x.fOp = 22 → 0 ≤ x.fC ∧ x.fC < size) := by
 refine ⟨fun e => ?_, fun e => ?_, fun e => ?_⟩ <;> simp [y2P, e, y18, nth, fits, y3E] at h <;> omega
end
/-! ### count -/
end Go.Proofs.YtjdnejbngloieaaDoor
