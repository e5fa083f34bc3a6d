/- A part of this claim's proof: plain laws: the loops of generic functions, order statistics. No conditions. -/
import Derived.Test.YtahpdiojgdlmgaaZPure
set_option linter.all false
namespace Sep
open Go Go.RowKit
set_option linter.unusedSectionVars false
variable [Rnd]
/-! ### plain laws of the loops that the library's generic functions make -/
/-! ### order statistics -/
end Sep
