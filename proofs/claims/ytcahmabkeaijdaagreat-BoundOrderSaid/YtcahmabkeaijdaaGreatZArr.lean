/- A part of this claim's proof: models of functions, walks, plain laws. No conditions. -/
import Derived.Test.YtcahmabkeaijdaaGreatZScope
namespace Sep
open Go Go.RowKit
set_option linter.all false
/-! ### arrays at an index that is not known; tables of functions; strings -/
def sw {R : Type} : List (Int × Option R) → Int → Option R
 | [], _ => none
 | p :: l, i => if i = p.1 then p.2 else sw l i
structure arT (P : Program) (t e : TypeId) (len sz : Nat) : Prop where
 un : P.underlying t = some (.array len e)
 sz : ∀ w, (Go.sizeOf e).run P w = .ok sz w
section
variable [Rnd]
variable {P : Program} {n : Nat} {F : List Nat} {w₀ : World} {env : List (Nat × Value)} {L R : List Asrt} {ops : Array Oper} {Q : Exit → Act → World → Prop} {rest : List Oper}
 {dd : Nat} {d : Option Tmp} {ty : TypeId} {pos : String} {after : Array Edge} {g : Option (Nat × Bool)} {x y c : Operand} {v u : Value} {t e T : TypeId} {sz len : Nat} {Z : Zp}
end
end Sep
