/- A part of this claim's proof: owned maps. No conditions. -/
import Derived.Test.YtahpdiojgdlmgaaZMidR
set_option linter.all false
namespace Sep
open Go Go.RowKit
set_option linter.unusedSectionVars false
/-! ### maps as lists of keys and values, in the order in which the keys came -/
structure KeyT (P : Program) (kt : TypeId) {κ : Type} [DecidableEq κ] (ek : κ → Value) : Prop where
 chk : ∀ (b : Bool) (k : κ) (w : World), (Instr.checkKey b 10000 kt (ek k)).run P w = .ok () w
 find : ∀ (k : κ) (es : List MapEntry) (ks : List κ) (w : World), es.map (·.key) = ks.map ek →
  (Instr.findKey kt (ek k) es).run P w = .ok ((ks.findIdx? fun k' => decide (k = k')).map fun i => (i, ((es[i]?).map (·.val)).getD undef)) w
 stays : ∀ (k : κ) (w : World), (Instr.keyThatStays (ek k) (ek k)).run P w = .ok (ek k) w
section
variable {κ α : Type} [DecidableEq κ]
end
section
variable [Rnd]
variable {P : Program} {n : Nat} {F : List Nat} {w₀ : World} {env : List (Nat × Value)} {L R : List Asrt} {d : Option Tmp} {ty : TypeId} {pos : String} {after : Array Edge} {g : Option (Nat × Bool)} {x y z : Operand} {t kt e : TypeId}
 {κ α : Type} [DecidableEq κ] {ek : κ → Value} {ev : α → Value} {l : List (κ × α)} {b : Nat} {k : κ} {v dflt : α} {zv : Value}
end
end Sep
