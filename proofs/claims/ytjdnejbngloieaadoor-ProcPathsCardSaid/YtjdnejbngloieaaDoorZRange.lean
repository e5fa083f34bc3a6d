/- A part of this claim's proof: loops over functions. No conditions. -/
import Derived.Test.YtjdnejbngloieaaDoorZLoops
import Derived.RangeFuncLeaves
set_option linter.all false
namespace Sep
open Go Go.RowKit
set_option linter.unusedSectionVars false
/-! ### many assertions as one -/
def allA (L : List Asrt) : Asrt where
 fp := fps L
 ok w := (∀ x ∈ L, x.ok w) ∧ L.Pairwise (fun x y : Asrt => ∀ b ∈ x.fp, b ∉ y.fp)
 loc w w' h hl hk := ⟨fun x hx => x.loc w w' (fun b hb => h b (List.mem_flatMap.2 ⟨x, hx, hb⟩)) (fun b hb => hl b (List.mem_flatMap.2 ⟨x, hx, hb⟩)) (hk.1 x hx), hk.2⟩
section
variable {F : List Nat} {w₀ w w' : World} {L M R : List Asrt}
end
/-! ### a loop over a function -/
abbrev Rc := LoopState → Option Code → Obj
section
variable {P : Program} {n : Nat} {F : List Nat} {w₀ : World} {env : List (Nat × Value)} {L L' : List Asrt} {l D : Nat} {R : Ending → World → Prop} {fn : FuncId} {tmps : Array Value} {ps : List Tmp} {as bo : Code} {rc : Rc}
end
section
variable {P : Program} {n : Nat} {F : List Nat} {w₀ : World} {Q : Exit → Act → World → Prop} {D p i : Nat} {env : List (Nat × Value)} {L : List Asrt} {cs : List Code} {c : Code}
end
/-! the function's end, with the loop's mark -/
section
variable {P : Program} {n : Nat} {F : List Nat} {w₀ : World} {env : List (Nat × Value)} {L L' : List Asrt} {D : Nat} {R : Ending → World → Prop}
end
/-! the iterator's side -/
section
variable [Rnd] {P : Program} {n : Nat} {F : List Nat} {w₀ : World} {env : List (Nat × Value)} {L Lr : List Asrt} {ops : Array Oper} {Q : Exit → Act → World → Prop} {rest : List Oper}
 {dd : Nat} {ty : TypeId} {pos : String} {after : Array Edge} {gu : Option (Nat × Bool)}
end
end Sep
