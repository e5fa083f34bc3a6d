/- A part of this claim's proof: plain laws: sorting. No conditions. -/
import Derived.Test.YtjdnejbngloieaaDoorZRules
set_option linter.all false
namespace Sep
open Go Go.RowKit
/-! ### sorting -/
def y37 (x : Int) : List Int → List Int
  | [] => [x]
  | y :: l => if x ≤ y then x :: y :: l else y :: y37 x l
def y3z : List Int → List Int
  | [] => []
  | x :: l => y37 x (y3z l)
theorem y4F (x : Int) (l : List Int) : (y37 x l).Perm (x :: l) := by
  induction l with
  | nil => exact .refl _
  | cons y l ih => unfold y37; split
                   · exact .refl _
                   · exact (List.Perm.cons _ ih).trans (List.Perm.swap ..)
theorem y6y (l : List Int) : (y3z l).Perm l := by
  induction l with
  | nil => exact .refl _
  | cons x l ih => exact (y4F x _).trans (List.Perm.cons _ ih)
theorem y5j (x : Int) (l : List Int) (h : l.Pairwise (· ≤ ·)) : (y37 x l).Pairwise (· ≤ ·) := by
  induction l with
  | nil => simp [y37]
  | cons y l ih =>
    obtain ⟨h1, h2⟩ := List.pairwise_cons.1 h
    unfold y37; split
    · rename_i hxy
      refine List.pairwise_cons.2 ⟨fun z hz => ?_, h⟩
      rcases List.mem_cons.1 hz with rfl | hz
      · exact hxy
      · exact Int.le_trans hxy (h1 z hz)
    · rename_i hxy
      refine List.pairwise_cons.2 ⟨fun z hz => ?_, ih h2⟩
      have := (y4F x l).mem_iff.1 hz
      rcases List.mem_cons.1 this with rfl | hz
      · omega
      · exact h1 z hz
theorem y5R (l : List Int) : (y3z l).Pairwise (· ≤ ·) := by
  induction l with
  | nil => simp [y3z]
  | cons x l ih => exact y5j x _ ih
theorem y4s : ∀ {a b : List Int}, a.Pairwise (· ≤ ·) → b.Pairwise (· ≤ ·) → a.Perm b → a = b
  | [], b, _, _, h => (List.nil_perm.1 h).symm
  | x :: a, [], _, _, h => absurd h.symm (by intro h; exact absurd (List.nil_perm.1 h) (by simp))
  | x :: a, y :: b, ha, hb, h => by
    obtain ⟨a1, a2⟩ := List.pairwise_cons.1 ha
    obtain ⟨b1, b2⟩ := List.pairwise_cons.1 hb
    have e : x = y := by
      have h1 : x ∈ y :: b := h.mem_iff.1 (by simp)
      have h2 : y ∈ x :: a := h.mem_iff.2 (by simp)
      rcases List.mem_cons.1 h1 with h1 | h1
      · exact h1
      · rcases List.mem_cons.1 h2 with h2 | h2
        · exact h2.symm
        · have := b1 x h1; have := a1 y h2; omega
    subst e
    rw [y4s a2 b2 (List.Perm.cons_inv h)]
theorem y5S (l : List Int) : (l.mergeSort fun x y => decide (x ≤ y)) = y3z l := by
  refine y4s ?_ (y5R l) ((List.mergeSort_perm l _).trans (y6y l).symm)
  have := List.pairwise_mergeSort (le := fun x y : Int => decide (x ≤ y)) (by intro a b c; simp; omega) (by intro a b; simp; omega) l
  exact this.imp (by simp)
end Sep
