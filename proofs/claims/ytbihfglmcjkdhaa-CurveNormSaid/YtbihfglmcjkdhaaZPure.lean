/- A part of this claim's proof: plain laws: sorting. No conditions beyond those in each theorem's statement. -/
import Derived.Test.YtbihfglmcjkdhaaZRules
set_option linter.all false
namespace Sep
open Go Go.RowKit
/-! ### sorting -/
end Sep
