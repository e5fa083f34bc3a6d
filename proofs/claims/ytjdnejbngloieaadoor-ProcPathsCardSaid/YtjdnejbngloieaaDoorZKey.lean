/- A part of this claim's proof: models of functions, walks, plain laws. No conditions. -/
import Derived.Test.YtjdnejbngloieaaDoorZSeg
namespace Sep
open Go Go.RowKit
set_option linter.all false
/-! ### keys that are structs or arrays of numbers -/
end Sep
