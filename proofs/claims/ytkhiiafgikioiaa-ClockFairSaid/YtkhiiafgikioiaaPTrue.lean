/- A part of this claim's proof: models of the functions that the law reaches, with the proof that the functions compute them; plain laws about the models. No conditions beyond those in each theorem's statement. -/
import Derived.Test.YtkhiiafgikioiaaP2
import Derived.Test.YtkhiiafgikioiaaWClockTrue
set_option linter.all false
namespace Go.Proofs.Ytkhiiafgikioiaa
open Go Go.RowKit Sep
/-- what times makes -/
def TimesOk (t : List Int) (f : Int) : Prop := 2 * f + 1 ≤ t.length ∧ 1 ≤ (t.length : Int) ∧ (t.length : Int) ≤ 16 ∧ ∀ x ∈ t, -1000 ≤ x ∧ x ≤ 1000
theorem times_loop {l : List Int} {f : Int} {k : List Int → Option (List Int)} (hf : 0 ≤ f ∧ f ≤ 7) (hl : (l.length : Int) ≤ 9223372036854775807) (hx : ∀ x ∈ l, -32768 ≤ x ∧ x ≤ 32767) :
    ∀ (n : Nat) (out : List Int) (i : Int), 0 ≤ i → i ≤ 16 → 16 - i < n → (out.length : Int) = i → (∀ x ∈ out, -1000 ≤ x ∧ x ≤ 1000) →
      ∃ t : List Int, m_law33_times_L2 l f k n out i = k t ∧ 2 * f + 1 ≤ t.length ∧ (t.length : Int) ≤ 16 ∧ (0 < (t.length : Int)) ∧ (∀ x ∈ t, -1000 ≤ x ∧ x ≤ 1000) := by
  intro n
  induction n with
  | zero => intro out i; omega
  | succ n ih =>
    intro out i h0 h1 h2 h3 h4
    rw [m_law33_times_L2, i64_id (x := 2 * f) (by omega), i64_id (x := 2 * f + 1) (by omega)]
    by_cases hc : i < 16 ∧ (i < l.length ∨ i < 2 * f + 1)
    · rw [if_pos (by simp; omega)]
      simp only [jp1]
      have step : ∀ t : Int, -1000 ≤ t ∧ t ≤ 1000 → ∃ t' : List Int, chk ((((out ++ [t]).length : Nat) : Int) * 8 ≤ 140737488355328 ∧ (((out ++ [t]).length : Nat) : Int) ≤ 4611686018427387904) (m_law33_times_L2 l f k n (out ++ [t]) (i64 (i + 1))) = k t' ∧ 2 * f + 1 ≤ t'.length ∧ (t'.length : Int) ≤ 16 ∧ (0 < (t'.length : Int)) ∧ (∀ x ∈ t', -1000 ≤ x ∧ x ≤ 1000) := by
        intro t ht
        rw [chk_pos (by simp; omega), i64_id (by omega)]
        refine ih _ _ (by omega) (by omega) (by omega) (by simp; omega) ?_
        intro x hx
        rcases List.mem_append.1 hx with hx | hx
        · exact h4 x hx
        · simp at hx; omega
      by_cases hi : i < l.length
      · rw [if_pos (by simpa using hi), chk_pos ⟨h0, hi⟩]
        refine step _ ?_
        have hb := hx _ (nth_mem h0 hi)
        rw [i64_id (by omega)]
        have e1 := Int.tmod_lt_of_pos (nth l i) (b := 1001) (by omega)
        have e2 := Int.lt_tmod_of_pos (nth l i) (b := 1001) (by omega)
        omega
      · rw [if_neg (by simpa using hi)]
        exact step 0 (by omega)
    · rw [if_neg (by simp; omega)]
      exact ⟨out, rfl, by omega, by omega, by omega, h4⟩
theorem times_eq {l : List Int} {f : Int} (hf : 0 ≤ f ∧ f ≤ 7) (hl : (l.length : Int) ≤ 9223372036854775807) (hx : ∀ x ∈ l, -32768 ≤ x ∧ x ≤ 32767) : ∃ t, m_law33_times l f = some t ∧ TimesOk t f := by
  unfold m_law33_times
  simp only [jp1]
  obtain ⟨t, h1, h2, h3, h4, h5⟩ := times_loop (k := fun out => if decide (((out.length : Nat) : Int) = 0) then some [0] else some out) hf hl hx FUEL [] 0 (by omega) (by omega) (by rw [FUEL_eq]; omega) rfl (by simp)
  rw [h1, if_neg (by simp; rintro rfl; simp at h4)]
  exact ⟨t, rfl, h2, by omega, h3, h5⟩
theorem f8 {n : Int} (h : 0 ≤ n ∧ n ≤ 255) : 0 ≤ Int.tmod (i64 n) 8 ∧ Int.tmod (i64 n) 8 ≤ 7 := by
  rw [i64_id (by omega), tmodp (by omega)]; omega
end Go.Proofs.Ytkhiiafgikioiaa
