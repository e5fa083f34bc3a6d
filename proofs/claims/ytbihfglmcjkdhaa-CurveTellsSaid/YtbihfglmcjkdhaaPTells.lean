/- A part of this claim's proof: models of functions, walks, plain laws. No conditions. -/
import Derived.Test.YtbihfglmcjkdhaaP02u
import Derived.Test.YtbihfglmcjkdhaaP02w
import Derived.Test.YtbihfglmcjkdhaaWCurveTells
namespace Go.Proofs.Ytbihfglmcjkdhaa
open Go Go.RowKit Sep
set_option linter.all false
theorem ct_loop {l : List R} {e f : Int} {k : Option Bool} (hs : (l.length : Int) ≤ 1000000) : ∀ (n : Nat) (v : Int), 0 ≤ v → v ≤ l.length → l.length < n + v → m_law02_CurveTells_L2 (l, e) (l, f) k n v = k
 | 0, v, h0, h1, h2 => by omega
 | n + 1, v, h0, h1, h2 => by
  rw [m_law02_CurveTells_L2]
  by_cases h : v < l.length
  ·rw [if_pos (decide_eq_true h), chk_pos ⟨h0, h⟩, chk_pos ⟨h0, h⟩, if_neg (by simp), i64_id (by omega), ct_loop hs n (v + 1) (by omega) (by omega) (by omega)]
  ·rw [if_neg (by simpa using h)]
theorem at_some (c : List B) (t : R) : ∃ x, m_curve_At c t = some x := by
 by_cases h : VC c = true ∧ GR t = true
 ·exact ⟨_, at_eq h.1 h.2⟩
 ·exact ⟨_, at_bad h⟩
theorem rate_some (c : List B) : ∃ x, m_curve_Rate c = some x := by
 cases h : VC c with
 | true => obtain ⟨d, e, _⟩ := rate_ok h; exact ⟨_, e⟩
 | false => exact ⟨(⟨0, 0⟩, 2), by unfold m_curve_Rate; rw [curve_valid, h]; rfl⟩
theorem sum_some (a b : List B) : ∃ x : List B × Int, m_curve_Sum a b = some x ∧ x.1.length ≤ 1100 := by
 by_cases h : VC a = true ∧ VC b = true
 ·have la := VC_len h.1; have lb := VC_len h.2
  have na := NORM_len a; have nb := NORM_len b
  have hm : (NORM a).length * (NORM b).length ≤ 32 * 32 := Nat.mul_le_mul (by omega) (by omega)
  have l1 := NORM_len (SUM (NORM a) (NORM b))
  have l2 : (SUM (NORM a) (NORM b)).length = (NORM a).length * (NORM b).length := by unfold SUM; rw [List.length_map, prod_length]
  refine ⟨_, Sum_eq h.1 h.2, ?_⟩
  split
  ·simp
  ·split
   ·show (NORM (SUM (NORM a) (NORM b))).length ≤ 1100; omega
   ·simp
 ·exact ⟨_, Sum_bad h, by simp⟩
theorem min_some (a b : List B) : ∃ x : List B × Int, m_curve_Min a b = some x ∧ x.1.length ≤ 1100 := by
 by_cases h : VC a = true ∧ VC b = true
 ·refine ⟨_, Min_eq h.1 h.2, ?_⟩
  split
  ·simp
  ·show (NORM (a ++ b)).length ≤ 1100; omega
 ·exact ⟨_, Min_bad h, by simp⟩
theorem shift_some (a : List B) (t : R) : ∃ x : List B × Int, m_curve_Shift a t = some x ∧ x.1.length ≤ 1100 := by
 by_cases h : VC a = true ∧ GR t = true
 ·have la := VC_len h.1
  refine ⟨_, Shift_eq h.1 h.2, ?_⟩
  split
  ·have := NORM_len (a.map (sh1 (val t)))
   rw [List.length_map] at this
   show (NORM (a.map (sh1 (val t)))).length ≤ 1100; omega
  ·simp
 ·exact ⟨_, Shift_bad h, by simp⟩
theorem breaks_some (a : List B) : ∃ x : List R × Int, m_curve_Breaks a = some x ∧ x.1.length ≤ 1100 := by
 cases h : VC a with
 | true =>
  have := Breaks_eq h
  split at this
  ·obtain ⟨r, e, _, _, _, hl⟩ := this
   exact ⟨_, e, hl⟩
  ·exact ⟨_, this, by simp⟩
 | false => exact ⟨_, Breaks_bad h, by simp⟩
theorem curveTells_true {a b : List B} {t : R} : m_law02_CurveTells a b t = some true := by
 unfold m_law02_CurveTells
 have hF : FUEL > 2000 := by rw [FUEL_eq]; omega
 generalize FUEL = N at hF ⊢
 by_cases hl : (decide (((a.length : Nat) : Int) > 40)) || (decide (((b.length : Nat) : Int) > 40))
 ·rw [if_pos hl, awake_eq]; rfl
 rw [if_neg hl]
 obtain ⟨x1, h1⟩ := at_some a t
 obtain ⟨x2, h2⟩ := rate_some a
 rw [rat_eq, rrate_eq, h1, Option.bind_some, Option.bind_some, h2, Option.bind_some, Option.bind_some, curve_valid, rvc_eq, Option.bind_some, Option.bind_some]
 rw [if_neg (by simp)]
 refine jp2_ex (P := fun o => o = _) fun k hk => ?_
 rw [Option.bind_some]
 have hend : ∀ (w : List B) (e : Int), w.length ≤ 1100 → m_curve_Norm a = some (w, e) → k w e = some true := by
  intro w e hw hn
  obtain ⟨y1, e1, l1⟩ := sum_some a b
  obtain ⟨y2, e2, l2⟩ := min_some a b
  obtain ⟨y3, e3, l3⟩ := shift_some a t
  obtain ⟨⟨y4, z4⟩, e4, l4⟩ := breaks_some a
  rw [hk, hn, Option.bind_some]
  rw [same_self (a := w) (by omega), Option.bind_some, if_neg (by simp)]
  rw [rsum_eq, e1, Option.bind_some, Option.bind_some, same_self (by omega), Option.bind_some, if_neg (by simp)]
  rw [rmin_eq, e2, Option.bind_some, Option.bind_some, same_self (by omega), Option.bind_some, if_neg (by simp)]
  rw [rshift_eq, e3, Option.bind_some, Option.bind_some, same_self (by omega), Option.bind_some, if_neg (by simp)]
  rw [rbreaks_eq, e4, Option.bind_some, Option.bind_some, if_neg (by simp)]
  refine jp0_ex' (P := fun o => o = _) fun k1 hk1 => ?_
  have l4' : y4.length ≤ 1100 := l4
  rw [ct_loop (by omega) N 0 (by omega) (by omega) (by omega), hk1, awake_eq]
  rfl
 cases hv : VC a with
 | true =>
  have hl := VC_len hv; have hn := NORM_len a
  rw [if_pos rfl, rnorm_eq (VC_all hv) (by omega), Option.bind_some]
  exact hend _ _ (by omega) (by rw [Norm_eq, hv]; rfl)
 | false =>
  rw [if_neg Bool.false_ne_true]
  exact hend _ _ (by simp) (by rw [Norm_eq, hv]; rfl)
end Go.Proofs.Ytbihfglmcjkdhaa
