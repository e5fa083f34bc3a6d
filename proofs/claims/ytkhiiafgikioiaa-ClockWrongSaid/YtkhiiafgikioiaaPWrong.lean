/- A part of this claim's proof: models of the functions that the law reaches, with the proof that the functions compute them; plain laws about the models. No conditions beyond those in each theorem's statement. -/
import Derived.Test.YtkhiiafgikioiaaPTrue
import Derived.Test.YtkhiiafgikioiaaP3
import Derived.Test.YtkhiiafgikioiaaWClockWrong
set_option linter.all false
namespace Go.Proofs.Ytkhiiafgikioiaa
open Go Go.RowKit Sep
theorem wrong_loop {c : List Int} {n y : Int} {sp : List S52} {k : List Int → Option Bool} (hl : sp.length = 6) (hb : ∀ s ∈ sp, (s.fL.length : Int) ≤ 1000000 ∧ midOk s.fL s.fF = false) :
    ∀ (m : Nat) (i : Int), 0 ≤ i → i ≤ 6 → 6 - i < m → m_law33_ClockWrong_L2 n c y k m sp i = k c := by
  intro m
  induction m with
  | zero => intro i; omega
  | succ m ih =>
    intro i h0 h1 h2
    rw [m_law33_ClockWrong_L2]
    by_cases hi : i < 6
    · obtain ⟨b1, b2⟩ := hb _ (nth_mem (l := sp) h0 (by omega))
      rw [if_pos (by simp; omega), chk_pos ⟨h0, by omega⟩, midpoint_eq b1, Option.bind_some, suspects_eq b1, Option.bind_some, b2, i64_id (by omega)]
      simp only [Bool.false_eq_true, if_false, false_and]
      rw [if_neg (by simp), ih (i + 1) (by omega) (by omega) (by omega)]
    · rw [if_neg (by simp; omega)]
theorem notOk {l : List Int} {f : Int} (h : ¬ okN l.length f) : midOk l f = false := by
  unfold midOk; rw [decide_eq_false h]; rfl
theorem notIn {l : List Int} {f : Int} {x : Int} (hx : x ∈ l) (h : inT x = false) : midOk l f = false := by
  unfold midOk
  have : l.all inT = false := by
    rw [List.all_eq_false]; exact ⟨x, hx, by simp [h]⟩
  rw [this]; simp
theorem clockWrong_true {l : List Int} {n x : Int} (hl : (l.length : Int) ≤ 9223372036854775807) (hx : ∀ x ∈ l, -32768 ≤ x ∧ x ≤ 32767) (hn : 0 ≤ n ∧ n ≤ 255) : m_law33_ClockWrong l n x = some true := by
  unfold m_law33_ClockWrong
  have hf := f8 hn
  obtain ⟨t, ht, ok⟩ := times_eq hf hl hx
  obtain ⟨o1, o2, o3, o4⟩ := ok
  rw [ht, Option.bind_some, List.nil_append, i64_id (x := (t.length : Int) - 1) (by omega), chk_pos (by omega), chk_pos (by omega), chk_pos (by omega), chk_pos (by omega)]
  refine jp1_use fun k hk => ?_
  rw [chk_pos (by omega), i64_id (x := (t.length : Int) + 1) (by omega), tdivp (by omega), i64_id (x := ((t.length : Int) + 1) / 2) (by omega)]
  rw [wrong_loop rfl ?_ FUEL 0 (by omega) (by omega) (by rw [FUEL_eq]; omega), hk]
  · have m0 : ∀ (sp : List Sapi_Span), (sp.length : Int) ≤ 1000000 → meetOk sp 0 = false → m_clock_Meet sp 0 = some (⟨0, 0⟩, 2) := by
      intro sp h1 h2; rw [meet_eq h1, h2]; rfl
    rw [suspects_eq (by omega), Option.bind_some, if_neg (by omega), m0 [⟨1, 0⟩] (by simp) rfl, Option.bind_some, m0 [⟨0, max x 1073741825⟩] (by simp) (by
      unfold meetOk
      have : okS ⟨0, max x 1073741825⟩ = false := by
        have : inT (max x 1073741825) = false := by simp [inT]; omega
        simp [okS, this]
      simp [this]), Option.bind_some, m0 [] (by simp) rfl, Option.bind_some]
    simp only [decide_true, Bool.and_self, if_true, awake_true, Option.bind_some]
  · intro s hs
    simp only [List.mem_cons, List.not_mem_nil, or_false] at hs
    have hlen : ∀ i v, (t.set i v).length = t.length := fun i v => List.length_set
    rcases hs with rfl | rfl | rfl | rfl | rfl | rfl
    · exact ⟨by simp, notOk (by simp)⟩
    · exact ⟨by simp, notOk (by simp)⟩
    · exact ⟨by simp only; omega, notOk (by simp)⟩
    · exact ⟨by simp only; omega, notOk (by simp only; omega)⟩
    · refine ⟨by simp only [hlen]; omega, notIn (x := max x 1073741825) ?_ (by simp [inT]; omega)⟩
      simp only
      exact List.mem_set (by omega) _
    · refine ⟨by simp only [hlen]; omega, notIn (x := min x (-1073741825)) ?_ (by simp [inT]; omega)⟩
      simp only
      exact List.mem_set (by omega) _
end Go.Proofs.Ytkhiiafgikioiaa
