/- A part of this claim's proof: models of functions, walks, plain laws. No conditions. -/
import Derived.Test.YtakfmdiiehcbdaaGreatPYs
namespace Go.Proofs.YtakfmdiiehcbdaaGreat
open Go Go.RowKit Sep
set_option linter.all false
/-! ### Sum -/
/-! ### Shift -/
end Go.Proofs.YtakfmdiiehcbdaaGreat
