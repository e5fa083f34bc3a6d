/- A part of this claim's proof: models of functions, walks, plain laws. No conditions. -/
import Derived.Test.YtakfmdiiehcbdaaGreatPYc
namespace Go.Proofs.YtakfmdiiehcbdaaGreat
open Go Go.RowKit Sep
set_option linter.all false
/-! ### the order of buckets -/
def le2 (a b : B) : Prop := bq a ≤ bq b ∧ rq a ≤ rq b
instance (a b : B) : Decidable (le2 a b) := inferInstanceAs (Decidable (_ ∧ _))
theorem dom_iff {a b : B} : dom a b = true ↔ a ≠ b ∧ le2 a b := by unfold dom le2; simp [and_assoc]
theorem ycw {a b : B} : dom a b = false ↔ (le2 a b → a = b) := by
 rw [Bool.eq_false_iff, ne_eq, dom_iff]
 constructor
 ·intro h h'
  exact Classical.byContradiction fun hn => h ⟨hn, h'⟩
 ·intro h h'
  exact h'.1 (h h'.2)
theorem yab {c : List B} {v : B} : v ∈ yR c ↔ v ∈ c ∧ ∀ a ∈ c, le2 a v → a = v := by
 rw [y7j]; simp only [ycw]
theorem cmpb {a b : B} (ha : GB a = true) (hb : GB b = true) : yM a.fB b.fB = some (y3K (bq a) (bq b)) := y67 (y2I (y5H ha)) (y2I (y5H hb))
theorem ybd {c : List B} (hc : ∀ b ∈ c, GB b = true) : ∀ b ∈ yR c, GB b = true := fun b hb => hc b (yab.1 hb).1
theorem ybe {c : List B} {b : B} (hb : b ∈ yR c) : b ∈ c := (yab.1 hb).1
theorem y9R : ∀ {l m : List B}, (l.Pairwise fun x y => bq x < bq y ∧ rq y < rq x) → (m.Pairwise fun x y => bq x < bq y ∧ rq y < rq x) → (∀ v, v ∈ l ↔ v ∈ m) → l = m
 | [], [], _, _, _ => rfl
 | [], y :: m, _, _, h => by have := (h y).2 (by simp); simp at this
 | x :: l, [], _, _, h => by have := (h x).1 (by simp); simp at this
 | x :: l, y :: m, hl, hm, h => by
  obtain ⟨h1, hl'⟩ := List.pairwise_cons.1 hl
  obtain ⟨h2, hm'⟩ := List.pairwise_cons.1 hm
  have e : x = y := by
   rcases List.mem_cons.1 ((h x).1 (by simp)) with e | h3
   ·exact e
   ·rcases List.mem_cons.1 ((h y).2 (by simp)) with e | h4
    ·exact e.symm
    ·have := (h1 y h4).1; have := (h2 x h3).1; grind
  subst e
  refine congrArg (x :: ·) (y9R hl' hm' fun v => ?_)
  constructor
  ·intro hv
   rcases List.mem_cons.1 ((h v).1 (by simp [hv])) with e | h3
   ·subst e; have := (h1 v hv).1; grind
   ·exact h3
  ·intro hv
   rcases List.mem_cons.1 ((h v).2 (by simp [hv])) with e | h3
   ·subst e; have := (h2 v hv).1; grind
   ·exact h3
/-! values of lists -/
/-! ### Shift -/
end Go.Proofs.YtakfmdiiehcbdaaGreat
