/- A part of this claim's proof: where ways meet behind a loop over a function. No conditions. -/
import Derived.Test.YtjdnejbngloieaaDoorZMat
set_option linter.all false
namespace Sep
open Go Go.RowKit
set_option linter.unusedSectionVars false
section
variable {P : Program} {n : Nat} {F : List Nat} {w₀ : World} {env : List (Nat × Value)} {L : List Asrt} {Q : Exit → Act → World → Prop}
end
end Sep
