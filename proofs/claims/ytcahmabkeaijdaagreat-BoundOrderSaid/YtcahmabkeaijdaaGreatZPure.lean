/- A part of this claim's proof: plain laws: sorting. No conditions. -/
import Derived.Test.YtcahmabkeaijdaaGreatZRules
set_option linter.all false
namespace Sep
open Go Go.RowKit
/-! ### sorting -/
end Sep
