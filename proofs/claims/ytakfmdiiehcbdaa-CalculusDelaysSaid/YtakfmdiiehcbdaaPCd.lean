/- A part of this claim's proof: models of functions, walks, plain laws. No conditions. -/
import Derived.Test.YtakfmdiiehcbdaaPCc
namespace Go.Proofs.Ytakfmdiiehcbdaa
open Go Go.RowKit Sep
set_option linter.all false
/-! ### the order of buckets -/
def le2 (a b : B) : Prop := bq a ≤ bq b ∧ rq a ≤ rq b
instance (a b : B) : Decidable (le2 a b) := inferInstanceAs (Decidable (_ ∧ _))
theorem dom_iff {a b : B} : dom a b = true ↔ a ≠ b ∧ le2 a b := by unfold dom le2; simp [and_assoc]
theorem yav {a b : B} : dom a b = false ↔ (le2 a b → a = b) := by
 rw [Bool.eq_false_iff, ne_eq, dom_iff]
 constructor
 ·intro h h'
  exact Classical.byContradiction fun hn => h ⟨hn, h'⟩
 ·intro h h'
  exact h'.1 (h h'.2)
theorem y9N {c : List B} {v : B} : v ∈ y1w c ↔ v ∈ c ∧ ∀ a ∈ c, le2 a v → a = v := by
 rw [y7V]; simp only [yav]
theorem cmpb {a b : B} (ha : GB a = true) (hb : GB b = true) : yV a.fB b.fB = some (y2X (bq a) (bq b)) := y3c (y2m (GB_b ha)) (y2m (GB_b hb))
theorem NORM_all {c : List B} (hc : ∀ b ∈ c, GB b = true) : ∀ b ∈ y1w c, GB b = true := fun b hb => hc b (y9N.1 hb).1
theorem NORM_sub {c : List B} {b : B} (hb : b ∈ y1w c) : b ∈ c := (y9N.1 hb).1
theorem VC_of {c : List B} (hc : ∀ b ∈ c, GB b = true) (h : c ≠ []) (hl : c.length ≤ 32) : VC c = true := by
 unfold VC
 rw [Bool.and_eq_true, decide_eq_true_eq, List.all_eq_true]
 have := List.length_pos_iff.2 h
 exact ⟨⟨by omega, hl⟩, hc⟩
/-! values of lists -/
/-! ### Shift -/
end Go.Proofs.Ytakfmdiiehcbdaa
