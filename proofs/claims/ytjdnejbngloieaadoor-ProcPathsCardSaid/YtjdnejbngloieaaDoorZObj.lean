/- A part of this claim's proof: models of functions, walks, plain laws. No conditions. -/
import Derived.Test.YtjdnejbngloieaaDoorZKey
import Derived.Test.YtjdnejbngloieaaDoorZVar
namespace Sep
open Go Go.RowKit
set_option linter.all false
/-! ### maps of owned objects: the map holds pointers, the objects lie beside it -/
section objs
variable {κ β α γ : Type} [DecidableEq κ]
def objs (els : Nat × β → α → List Asrt) (lg : List (κ × ((Nat × β) × α))) : Asrt := allA (lg.flatMap fun p => els p.2.1 p.2.2)
section hp
variable {F : List Nat} {w₀ w : World} {L R R' : List Asrt} {els : Nat × β → α → List Asrt} {lg : List (κ × ((Nat × β) × α))} {l : List (κ × α)}
end hp
end objs
section gh
variable [Rnd]
variable {P : Program} {n : Nat} {F : List Nat} {w₀ : World} {env : List (Nat × Value)} {L R : List Asrt} {ops : Array Oper} {Q : Exit → Act → World → Prop} {l : List Oper} {G : Type} {φ : G → Prop} {L' : G → List Asrt} {M : List Asrt}
theorem WL.gh (h : ∀ w, Hp F w₀ w L → ∃ g, φ g ∧ Hp F w₀ w (L' g)) (k : ∀ g, φ g → WL P n F w₀ ops Q l env (L' g)) : WL P n F w₀ ops Q l env L := fun a w hs => by
 obtain ⟨g, h1, h2⟩ := h w hs.hp; exact k g h1 a w (hs.world h2)
variable {tl : Nat → Bool} {Ls : List Asrt} {fuel : Nat} {listed : Array Bool} {QD : Act → World → Prop}
theorem WD.gh (h : ∀ w, Hp F w₀ w L → ∃ g, φ g ∧ Hp F w₀ w (L' g)) (k : ∀ g, φ g → WD P n F w₀ ops tl Ls QD fuel listed env (L' g)) : WD P n F w₀ ops tl Ls QD fuel listed env L := fun a w hs => by
 obtain ⟨g, h1, h2⟩ := h w hs.hp; exact k g h1 a w (hs.world h2)
end gh
/-! ### interface values -/
section ifc
variable [Rnd]
variable {P : Program} {n : Nat} {F : List Nat} {w₀ : World} {env : List (Nat × Value)} {L R : List Asrt} {d : Option Tmp} {ty : TypeId} {pos : String} {after : Array Edge} {g : Option (Nat × Bool)} {x y : Operand} {v : Value} {t e T : TypeId}
end ifc
end Sep
