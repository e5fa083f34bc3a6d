/- A part of this claim's proof: plain laws: sorting. No conditions. -/
import Derived.Test.YtjdnejbngloieaaDoorZRules
set_option linter.all false
namespace Sep
open Go Go.RowKit
/-! ### sorting -/
def y3J (x : Int) : List Int → List Int
  | [] => [x]
  | y :: l => if x ≤ y then x :: y :: l else y :: y3J x l
def y4l : List Int → List Int
  | [] => []
  | x :: l => y3J x (y4l l)
theorem y5D (x : Int) (l : List Int) : (y3J x l).Perm (x :: l) := by
  induction l with
  | nil => exact .refl _
  | cons y l ih => unfold y3J; split
                   · exact .refl _
                   · exact (List.Perm.cons _ ih).trans (List.Perm.swap ..)
theorem y7N (l : List Int) : (y4l l).Perm l := by
  induction l with
  | nil => exact .refl _
  | cons x l ih => exact (y5D x _).trans (List.Perm.cons _ ih)
theorem y6s (x : Int) (l : List Int) (h : l.Pairwise (· ≤ ·)) : (y3J x l).Pairwise (· ≤ ·) := by
  induction l with
  | nil => simp [y3J]
  | cons y l ih =>
    obtain ⟨h1, h2⟩ := List.pairwise_cons.1 h
    unfold y3J; split
    · rename_i hxy
      refine List.pairwise_cons.2 ⟨fun z hz => ?_, h⟩
      rcases List.mem_cons.1 hz with rfl | hz
      · exact hxy
      · exact Int.le_trans hxy (h1 z hz)
    · rename_i hxy
      refine List.pairwise_cons.2 ⟨fun z hz => ?_, ih h2⟩
      have := (y5D x l).mem_iff.1 hz
      rcases List.mem_cons.1 this with rfl | hz
      · omega
      · exact h1 z hz
theorem y72 (l : List Int) : (y4l l).Pairwise (· ≤ ·) := by
  induction l with
  | nil => simp [y4l]
  | cons x l ih => exact y6s x _ ih
theorem y5n : ∀ {a b : List Int}, a.Pairwise (· ≤ ·) → b.Pairwise (· ≤ ·) → a.Perm b → a = b
  | [], b, _, _, h => (List.nil_perm.1 h).symm
  | x :: a, [], _, _, h => absurd h.symm (by intro h; exact absurd (List.nil_perm.1 h) (by simp))
  | x :: a, y :: b, ha, hb, h => by
    obtain ⟨a1, a2⟩ := List.pairwise_cons.1 ha
    obtain ⟨b1, b2⟩ := List.pairwise_cons.1 hb
    have e : x = y := by
      have h1 : x ∈ y :: b := h.mem_iff.1 (by simp)
      have h2 : y ∈ x :: a := h.mem_iff.2 (by simp)
      rcases List.mem_cons.1 h1 with h1 | h1
      · exact h1
      · rcases List.mem_cons.1 h2 with h2 | h2
        · exact h2.symm
        · have := b1 x h1; have := a1 y h2; omega
    subst e
    rw [y5n a2 b2 (List.Perm.cons_inv h)]
theorem y73 (l : List Int) : (l.mergeSort fun x y => decide (x ≤ y)) = y4l l := by
  refine y5n ?_ (y72 l) ((List.mergeSort_perm l _).trans (y7N l).symm)
  have := List.pairwise_mergeSort (le := fun x y : Int => decide (x ≤ y)) (by intro a b c; simp; omega) (by intro a b; simp; omega) l
  exact this.imp (by simp)
end Sep
