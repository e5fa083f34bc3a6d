/- A part of this claim's proof: models of functions, walks, plain laws. No conditions. -/
import Derived.Test.YtbihfglmcjkdhaaP02d
namespace Go.Proofs.Ytbihfglmcjkdhaa
open Go Go.RowKit Sep
set_option linter.all false
/-! ### a loop over a function's pairs -/
/-! ### Sum -/
theorem Sum_bad {a b : List B} (h : ¬ (VC a = true ∧ VC b = true)) : m_curve_Sum a b = some ([], 2) := by
  unfold m_curve_Sum
  rw [curve_valid, curve_valid]
  cases h1 : VC a <;> cases h2 : VC b <;> simp_all
/-! ### Min -/
theorem Min_bad {a b : List B} (h : ¬ (VC a = true ∧ VC b = true)) : m_curve_Min a b = some ([], 2) := by
  unfold m_curve_Min
  rw [curve_valid, curve_valid]
  cases h1 : VC a <;> cases h2 : VC b <;> simp_all
end Go.Proofs.Ytbihfglmcjkdhaa
