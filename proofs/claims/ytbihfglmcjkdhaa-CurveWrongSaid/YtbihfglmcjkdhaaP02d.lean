/- A part of this claim's proof: models of functions, walks, plain laws. No conditions. -/
import Derived.Test.YtbihfglmcjkdhaaP02c
namespace Go.Proofs.Ytbihfglmcjkdhaa
open Go Go.RowKit Sep
set_option linter.all false
/-! ### the order of buckets -/
def le2 (a b : B) : Prop := bq a ≤ bq b ∧ rq a ≤ rq b
instance (a b : B) : Decidable (le2 a b) := inferInstanceAs (Decidable (_ ∧ _))
theorem Norm_eq (c : List B) : m_curve_Norm c = some (if VC c then (NORM c, 0) else ([], 2)) := by
  unfold m_curve_Norm
  rw [curve_valid, Option.bind_some]
  cases h : VC c with
  | true => rw [norm_eq (VC_all h) (by have := VC_len h; omega)]; rfl
  | false => rfl
/-! values of lists -/
/-! ### Shift -/
theorem Shift_bad {c : List B} {t : R} (h : ¬ (VC c = true ∧ GR t = true)) : m_curve_Shift c t = some ([], 2) := by
  unfold m_curve_Shift
  rw [curve_valid, good_eq]
  cases h1 : VC c <;> cases h2 : GR t <;> simp_all
end Go.Proofs.Ytbihfglmcjkdhaa
