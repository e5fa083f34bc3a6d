/- A part of this claim's proof: models of functions, walks, plain laws. No conditions. -/
import Derived.Test.YtbihfglmcjkdhaaP02f
namespace Go.Proofs.Ytbihfglmcjkdhaa
open Go Go.RowKit Sep
set_option linter.all false
/-! ### Breaks -/
theorem Breaks_bad {c : List B} (h : VC c = false) : m_curve_Breaks c = some ([], 2) := by
  unfold m_curve_Breaks
  rw [curve_valid, h]; rfl
end Go.Proofs.Ytbihfglmcjkdhaa
