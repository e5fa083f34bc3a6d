/- A part of this claim's proof: models of functions, walks, plain laws. No conditions. -/
import Derived.Test.YtjdnejbngloieaaDoorP26e
namespace Go.Proofs.YtjdnejbngloieaaDoor
open Go Go.RowKit Sep
set_option linter.all false
theorem awake_eq : y2G = some true := by kernel_rfl
theorem y6t {a b : List Int} (hl : a.length = b.length) (ha : a.length < 1000000) : ∀ (n : Nat) (i : Int), 0 ≤ i → i ≤ a.length → a.length < n + i →
  y18 a b (some true) n i = some (decide (a.drop i.toNat = b.drop i.toNat))
 | 0, i, h0, h1, h => by omega
 | n + 1, i, h0, h1, h => by
  rw [y18]
  by_cases hi : i < a.length
  ·rw [if_pos (decide_eq_true hi), yq ⟨h0, hi⟩, yq ⟨h0, by omega⟩, y4G h0 hi, y4G h0 (show i < b.length by omega), y10 (by omega)]
   by_cases e : nth a i = nth b i
   ·rw [if_neg (by simpa using e), y6t hl ha n (i + 1) (by omega) (by omega) (by omega), e]
    simp
   ·rw [if_pos (by simpa using e), decide_eq_false (by simp [e])]
  ·rw [if_neg (by simpa using hi), List.drop_eq_nil_of_le (by omega), List.drop_eq_nil_of_le (by omega)]
   simp
theorem y65 {a b : List Int} (ha : a.length < 1000000) : y28 a b = some (decide (a = b)) := by
 unfold y28 jp0
 by_cases hl : a.length = b.length
 ·rw [if_neg (by simp [hl])]
  dsimp only
  rw [y6t hl ha y1o 0 (by omega) (by omega) (by rw [y36]; omega)]
  rfl
 ·rw [if_pos (by simp; omega), decide_eq_false (by rintro rfl; exact hl rfl)]
theorem y6D {a b : Sproc_Act} (ha : a.fData.length < 1000000) : y11 a b = some (decide (a = b)) := by
 unfold y11
 rw [y65 ha]
 obtain ⟨k, x, y, d⟩ := a
 obtain ⟨k', x', y', d'⟩ := b
 by_cases h1 : k = k' <;> by_cases h2 : x = x' <;> by_cases h3 : y = y' <;> simp [h1, h2, h3]
def RB (r : S34) : Prop := (0 ≤ r.a0 ∧ r.a0 ≤ 255) ∧ (0 ≤ r.a1 ∧ r.a1 ≤ 255) ∧ (0 ≤ r.a2 ∧ r.a2 ≤ 255) ∧ (0 ≤ r.a3 ∧ r.a3 ≤ 255)
theorem rg_bd {r : S34} (h : RB r) (i : Int) : 0 ≤ rg r i ∧ rg r i ≤ 255 := by
 obtain ⟨h0, h1, h2, h3⟩ := h
 unfold rg nth
 match i.toNat with
 | 0 => exact h0
 | 1 => exact h1
 | 2 => exact h2
 | 3 => exact h3
 | n + 4 => simp
theorem Pick_eq {x n : Int} (hx : -9223372036854775808 ≤ x ∧ x ≤ 9223372036854775807) (hn : 1 ≤ n ∧ n ≤ 1000000) : ∃ y, y34 x n = some y ∧ 0 ≤ y ∧ y < n := by
 unfold y34 jp1
 have h1 := Int.tmod_lt_of_pos x (show 0 < n by omega)
 have h2 : -n < Int.tmod x n := by
  have h := Int.tmod_lt_of_pos (-x) (show 0 < n by omega)
  rw [Int.neg_tmod] at h
  omega
 rw [if_neg (by simp; omega), yq (by omega)]
 dsimp only
 by_cases h : Int.tmod x n < 0
 ·exact ⟨Int.tmod x n + n, by rw [if_pos (decide_eq_true h), y10 (by omega)], by omega, by omega⟩
 ·exact ⟨Int.tmod x n, by rw [if_neg (by simpa using h)], by omega, by omega⟩
theorem Step_at {code : List Sapi_Ins} {s : Sproc_State} {mem : List Int} (hc : code.length ≤ 200) (hm : mem.length ≤ 5000) (hr : RB s.fRegs) (hk : y2i code s.fPc = true) : y1f code s mem = some (y13 (nth code s.fPc) s mem) := by
 rw [Step_eq hc hm (rg_bd hr), if_pos hk]
end Go.Proofs.YtjdnejbngloieaaDoor
