/- A part of this claim's proof: models of functions, walks, plain laws. No conditions. -/
import Derived.Test.YtcahmabkeaijdaaGreatZEnt
set_option linter.all false
namespace Sep
open Go Go.RowKit
set_option linter.unusedSectionVars false
/-! ### a range over a map -/
section
variable {κ α : Type}
end
section
variable [Rnd]
variable {P : Program} {n : Nat} {F : List Nat} {w₀ : World} {env : List (Nat × Value)} {L R : List Asrt} {d : Option Tmp} {ty : TypeId} {pos : String} {after : Array Edge} {g : Option (Nat × Bool)} {x y z : Operand} {t kt e : TypeId}
 {κ α : Type} {ek : κ → Value} {ev : α → Value} {l rem : List (κ × α)} {cur : Option (κ × α)} {r b : Nat}
end
end Sep
