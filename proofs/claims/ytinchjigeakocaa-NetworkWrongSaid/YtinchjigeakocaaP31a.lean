/- A part of this claim's proof: models of functions, walks, plain laws. No conditions. -/
import Derived.Test.YtinchjigeakocaaW31wd
import Derived.Test.YtinchjigeakocaaZLoops
namespace Go.Proofs.Ytinchjigeakocaa
open Go Go.RowKit Sep
set_option linter.all false
theorem y5z {R : Type} {K : Option R} {F : Option R → Option R} {P : Option R → Prop} (h : ∀ k : Option R, k = K → P (F k)) : P (jp0 K F) := h K rfl
theorem y4o {R A0 : Type} {K : A0 → Option R} {F : (A0 → Option R) → Option R} {P : Option R → Prop} (h : ∀ k : A0 → Option R, (∀ x0, k x0 = K x0) → P (F k)) : P (jp1 K F) := h K fun _ => rfl
/-! ### comparisons -/
abbrev Ev := Snetwork_event
def klt (a b : Ev) : Prop := a.fTime < b.fTime ∨ a.fTime = b.fTime ∧ (a.fIn_ < b.fIn_ ∨ a.fIn_ = b.fIn_ ∧ (a.fVl < b.fVl ∨ a.fVl = b.fVl ∧ a.fSent < b.fSent))
instance (a b : Ev) : Decidable (klt a b) := inferInstanceAs (Decidable (_ ∨ _))
def kle (a b : Ev) : Prop := ¬ klt b a
/-! ### swaps -/
theorem y6P {α : Type} [Inhabited α] {l : List α} {i : Int} (h : 0 ≤ i ∧ i < l.length) : nth l i = l[i.toNat]'(by omega) := by
 exact (y4B (l := l) h.1 h.2).symm
/-! ### the heap -/
end Go.Proofs.Ytinchjigeakocaa
