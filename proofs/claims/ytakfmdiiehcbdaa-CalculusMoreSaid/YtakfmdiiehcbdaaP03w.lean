/- A part of this claim's proof: models of functions, walks, plain laws. No conditions. -/
import Derived.Test.YtakfmdiiehcbdaaW03d
namespace Go.Proofs.Ytakfmdiiehcbdaa
open Go Go.RowKit Sep
set_option linter.all false
theorem awake_eq : y4o = some true := by kernel_rfl
end Go.Proofs.Ytakfmdiiehcbdaa
