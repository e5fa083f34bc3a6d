/- A part of this claim's proof: models of functions, walks, plain laws. No conditions. -/
import Derived.Test.YtjdnejbngloieaaDoorP26e
namespace Go.Proofs.YtjdnejbngloieaaDoor
open Go Go.RowKit Sep
set_option linter.all false
theorem awake_eq : y2E = some true := by kernel_rfl
end Go.Proofs.YtjdnejbngloieaaDoor
