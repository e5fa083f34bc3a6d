/- A part of this claim's proof: plain laws: sorting. No conditions beyond those in each theorem's statement. -/
import Derived.Test.YtkhiiafgikioiaaZRules
set_option linter.all false
namespace Sep
open Go Go.RowKit
/-! ### sorting -/
def insertI (x : Int) : List Int → List Int
  | [] => [x]
  | y :: l => if x ≤ y then x :: y :: l else y :: insertI x l
def isort : List Int → List Int
  | [] => []
  | x :: l => insertI x (isort l)
theorem insertI_perm (x : Int) (l : List Int) : (insertI x l).Perm (x :: l) := by
  induction l with
  | nil => exact .refl _
  | cons y l ih => unfold insertI; split
                   · exact .refl _
                   · exact (List.Perm.cons _ ih).trans (List.Perm.swap ..)
theorem isort_perm (l : List Int) : (isort l).Perm l := by
  induction l with
  | nil => exact .refl _
  | cons x l ih => exact (insertI_perm x _).trans (List.Perm.cons _ ih)
theorem insertI_sorted (x : Int) (l : List Int) (h : l.Pairwise (· ≤ ·)) : (insertI x l).Pairwise (· ≤ ·) := by
  induction l with
  | nil => simp [insertI]
  | cons y l ih =>
    obtain ⟨h1, h2⟩ := List.pairwise_cons.1 h
    unfold insertI; split
    · rename_i hxy
      refine List.pairwise_cons.2 ⟨fun z hz => ?_, h⟩
      rcases List.mem_cons.1 hz with rfl | hz
      · exact hxy
      · exact Int.le_trans hxy (h1 z hz)
    · rename_i hxy
      refine List.pairwise_cons.2 ⟨fun z hz => ?_, ih h2⟩
      have := (insertI_perm x l).mem_iff.1 hz
      rcases List.mem_cons.1 this with rfl | hz
      · omega
      · exact h1 z hz
theorem isort_sorted (l : List Int) : (isort l).Pairwise (· ≤ ·) := by
  induction l with
  | nil => simp [isort]
  | cons x l ih => exact insertI_sorted x _ ih
theorem sorted_unique : ∀ {a b : List Int}, a.Pairwise (· ≤ ·) → b.Pairwise (· ≤ ·) → a.Perm b → a = b
  | [], b, _, _, h => (List.nil_perm.1 h).symm
  | x :: a, [], _, _, h => absurd h.symm (by intro h; exact absurd (List.nil_perm.1 h) (by simp))
  | x :: a, y :: b, ha, hb, h => by
    obtain ⟨a1, a2⟩ := List.pairwise_cons.1 ha
    obtain ⟨b1, b2⟩ := List.pairwise_cons.1 hb
    have e : x = y := by
      have h1 : x ∈ y :: b := h.mem_iff.1 (by simp)
      have h2 : y ∈ x :: a := h.mem_iff.2 (by simp)
      rcases List.mem_cons.1 h1 with h1 | h1
      · exact h1
      · rcases List.mem_cons.1 h2 with h2 | h2
        · exact h2.symm
        · have := b1 x h1; have := a1 y h2; omega
    subst e
    rw [sorted_unique a2 b2 (List.Perm.cons_inv h)]
theorem mergeSort_eq (l : List Int) : (l.mergeSort fun x y => decide (x ≤ y)) = isort l := by
  refine sorted_unique ?_ (isort_sorted l) ((List.mergeSort_perm l _).trans (isort_perm l).symm)
  have := List.pairwise_mergeSort (le := fun x y : Int => decide (x ≤ y)) (by intro a b c; simp; omega) (by intro a b; simp; omega) l
  exact this.imp (by simp)
theorem isort_length (l : List Int) : (isort l).length = l.length := (isort_perm l).length_eq
end Sep
