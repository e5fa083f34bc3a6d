/- A part of this claim's proof: models of functions, walks, plain laws. No conditions. -/
import Derived.Test.YtjdnejbngloieaaDoorZPart
import Derived.Shelf.SlSortCmp.PdqK
namespace Sep
open Go Go.RowKit Go.Sort Go.Proofs
set_option linter.unusedSectionVars false
set_option linter.all false
section plain
variable {α : Type}
end plain
variable [Rnd]
end Sep
