/- A part of this claim's proof: models of functions, walks, plain laws. No conditions. -/
import Derived.Test.YtjdnejbngloieaaDoorP26e
namespace Go.Proofs.YtjdnejbngloieaaDoor
open Go Go.RowKit Sep
set_option linter.all false
theorem awake_eq : y3q = some true := by kernel_rfl
theorem y7A {a b : List Int} (hl : a.length = b.length) (ha : a.length < 1000000) : ∀ (n : Nat) (i : Int), 0 ≤ i → i ≤ a.length → a.length < n + i →
  y1f a b (some true) n i = some (decide (a.drop i.toNat = b.drop i.toNat))
 | 0, i, h0, h1, h => by omega
 | n + 1, i, h0, h1, h => by
  rw [y1f]
  by_cases hi : i < a.length
  ·rw [if_pos (decide_eq_true hi), yJ ⟨h0, hi⟩, yJ ⟨h0, by omega⟩, y6H h0 hi, y6H h0 (show i < b.length by omega), y1p (by omega)]
   by_cases e : nth a i = nth b i
   ·rw [if_neg (by simpa using e), y7A hl ha n (i + 1) (by omega) (by omega) (by omega), e]
    simp
   ·rw [if_pos (by simpa using e), decide_eq_false (by simp [e])]
  ·rw [if_neg (by simpa using hi), List.drop_eq_nil_of_le (by omega), List.drop_eq_nil_of_le (by omega)]
   simp
theorem y4i {a b : List Int} (ha : a.length < 1000000) : y1w a b = some (decide (a = b)) := by
 unfold y1w jp0
 by_cases hl : a.length = b.length
 ·rw [if_neg (by simp [hl])]
  dsimp only
  rw [y7A hl ha y2g 0 (by omega) (by omega) (by rw [y5W]; omega)]
  rfl
 ·rw [if_pos (by simp; omega), decide_eq_false (by rintro rfl; exact hl rfl)]
theorem y6t {a b : Sproc_Act} (ha : a.fData.length < 1000000) : y13 a b = some (decide (a = b)) := by
 unfold y13
 rw [y4i ha]
 obtain ⟨k, x, y, d⟩ := a
 obtain ⟨k', x', y', d'⟩ := b
 by_cases h1 : k = k' <;> by_cases h2 : x = x' <;> by_cases h3 : y = y' <;> simp [h1, h2, h3]
def RB (r : S34) : Prop := (0 ≤ r.a0 ∧ r.a0 ≤ 255) ∧ (0 ≤ r.a1 ∧ r.a1 ≤ 255) ∧ (0 ≤ r.a2 ∧ r.a2 ≤ 255) ∧ (0 ≤ r.a3 ∧ r.a3 ≤ 255)
theorem rg_bd {r : S34} (h : RB r) (i : Int) : 0 ≤ rg r i ∧ rg r i ≤ 255 := by
 obtain ⟨h0, h1, h2, h3⟩ := h
 unfold rg nth
 match i.toNat with
 | 0 => exact h0
 | 1 => exact h1
 | 2 => exact h2
 | 3 => exact h3
 | n + 4 => simp
end Go.Proofs.YtjdnejbngloieaaDoor
