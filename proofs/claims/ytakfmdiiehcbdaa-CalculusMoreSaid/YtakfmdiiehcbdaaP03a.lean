/- A part of this claim's proof: models of functions, walks, plain laws. No conditions. -/
import Derived.Test.YtakfmdiiehcbdaaW03d
import Derived.Test.YtakfmdiiehcbdaaZLoops
namespace Go.Proofs.Ytakfmdiiehcbdaa
open Go Go.RowKit Sep
set_option linter.all false
theorem y3v {R A0 : Type} {K : A0 → Option R} {F : (A0 → Option R) → Option R} {P : Option R → Prop} (h : ∀ k : A0 → Option R, (∀ x0, k x0 = K x0) → P (F k)) : P (jp1 K F) := h K fun _ => rfl
theorem y6P {a b : Int} (h : 0 ≤ a) : Int.tmod a b = a % b := Int.tmod_eq_emod_of_nonneg h
abbrev SE := zSt
def FG (l : List SE) (q : Int) : Prop := 0 ≤ (nth l q).fTime ∧ (nth l q).fTime ≤ 1073741824 ∧ 1 ≤ (nth l q).fSize ∧ (nth l q).fSize ≤ 72 ∧ (0 < q → (nth l (q - 1)).fTime ≤ (nth l q).fTime)
instance (l : List SE) (q : Int) : Decidable (FG l q) := inferInstanceAs (Decidable (_ ∧ _))
/-! ### Serve -/
/-! ### Flow -/
end Go.Proofs.Ytakfmdiiehcbdaa
