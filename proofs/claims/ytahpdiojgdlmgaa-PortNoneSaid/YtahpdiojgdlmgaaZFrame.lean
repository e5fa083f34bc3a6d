/- A part of this claim's proof: the pool of a call from outside. No conditions. -/
import Derived.Test.YtahpdiojgdlmgaaZRules
import Derived.Test.YtahpdiojgdlmgaaSepFrame
set_option linter.all false
namespace Sep
open Go Go.RowKit
set_option linter.unusedSectionVars false
variable [Rnd]
def ZW (W : World) : Zp := snap W (List.range W.heap.size)
theorem ZW_pz (W : World) : PZ [] W (ZW W) := ⟨y2S _ _, by simp⟩
theorem ZS.all {α : Type} {Z : Zp} {sz : Nat} {Pr : List Value → α → Prop} {ao : Option Addr} {cap : Nat} {l : List α} {q : α → Prop} (h : ZS Z sz Pr ao cap l) (hq : ∀ r x, Pr r x → q x) : ∀ x ∈ l, q x := by
 obtain ⟨_, _, cs, ⟨rows, _, _, hl, hP⟩, _⟩ := h
 intro x hx
 obtain ⟨i, hi, rfl⟩ := List.getElem_of_mem hx
 exact hq _ _ (hP i rows[i] l[i] (by simp) (by simp))
section
variable {H : Type} {enc : TypeId × Value → H} {P : Program} {W : World}
open Go.ChangeShapes Go.WideShapes Go.ChangeAt
set_option linter.unusedSectionVars false
variable [Rnd]
end
end Sep
