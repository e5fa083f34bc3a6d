/- A part of this claim's proof: models of functions, walks, plain laws. No conditions. -/
import Derived.Test.YtbihfglmcjkdhaaP02g
import Derived.Test.YtbihfglmcjkdhaaP02w
import Derived.Test.YtbihfglmcjkdhaaWCurveWrong
namespace Go.Proofs.Ytbihfglmcjkdhaa
open Go Go.RowKit Sep
set_option linter.all false
theorem VC_no {c : List B} {b : B} (hb : b ∈ c) (h : GB b = false) : VC c = false := by
  rw [Bool.eq_false_iff]
  intro hv
  rw [VC_all hv b hb] at h
  cases h
theorem VC_len_no {c : List B} (h : ¬ (1 ≤ c.length ∧ c.length ≤ 32)) : VC c = false := by
  rw [Bool.eq_false_iff]
  exact fun hv => h (VC_len hv)
theorem mem_set {c : List B} {j : Nat} {b : B} (h : j < c.length) : b ∈ c.set j b := by
  refine List.mem_iff_getElem.2 ⟨j, by rw [List.length_set]; exact h, ?_⟩
  rw [List.getElem_set_self]
theorem wrong5 {c : List B} {k : List B → Option Bool} (hc : 1 ≤ c.length) : ∀ (n : Nat) (bad : List B) (v : Int), 0 ≤ v → v ≤ 33 → 33 < n + v → bad.length = 33 → ∃ d, m_law02_CurveWrong_L5 c k n bad v = k d ∧ d.length = 33
  | 0, bad, v, h0, h1, h2, h3 => by omega
  | n + 1, bad, v, h0, h1, h2, h3 => by
    rw [m_law02_CurveWrong_L5]
    have hl : ((List.replicate (33 : Int).toNat ((⟨(⟨0, 0⟩ : Sapi_Rat), (⟨0, 0⟩ : Sapi_Rat)⟩ : Sapi_Bucket) : Sapi_Bucket)).length : Int) = 33 := by rw [List.length_replicate]; rfl
    rw [hl]
    by_cases h : v < 33
    · rw [if_pos (decide_eq_true h), chk_pos (by omega), chk_pos (by omega), i64_id (by omega)]
      exact wrong5 hc n _ (v + 1) (by omega) (by omega) (by omega) (by rw [List.length_set]; exact h3)
    · rw [if_neg (by simpa using h)]
      exact ⟨bad, rfl, h3⟩
theorem wrong6 {k : Option Bool} {r1 r7 r8 : R} {l2 l4 l5 l6 l9 : List B} {l3 : List R} (n : Nat) : m_law02_CurveWrong_L6 (r1, 2) (l2, 2) (l3, 2) (l4, 2) (l5, 2) (l6, 2) (r7, 2) (r8, 2) (l9, 2) k (n + 10) 0 = k := by
  have step : ∀ (n : Nat) (v : Int), 0 ≤ v → v < 9 → m_law02_CurveWrong_L6 (r1, 2) (l2, 2) (l3, 2) (l4, 2) (l5, 2) (l6, 2) (r7, 2) (r8, 2) (l9, 2) k (n + 1) v = m_law02_CurveWrong_L6 (r1, 2) (l2, 2) (l3, 2) (l4, 2) (l5, 2) (l6, 2) (r7, 2) (r8, 2) (l9, 2) k n (v + 1) := by
    intro n v h0 h1
    rw [m_law02_CurveWrong_L6]
    have hl : ((([2, 2, 2, 2, 2, 2, 2, 2, 2] : List Int).length : Nat) : Int) = 9 := rfl
    have hm := nth_mem (l := ([2, 2, 2, 2, 2, 2, 2, 2, 2] : List Int)) (i := v) h0 (by rw [hl]; exact h1)
    have hn : nth ([2, 2, 2, 2, 2, 2, 2, 2, 2] : List Int) v = 2 := by simpa using hm
    simp only []
    rw [hl, hn, if_pos (decide_eq_true h1), chk_pos ⟨h0, h1⟩, if_neg (by simp), i64_id (by omega)]
  rw [step _ 0 (by omega) (by omega), step _ _ (by omega) (by omega), step _ _ (by omega) (by omega), step _ _ (by omega) (by omega), step _ _ (by omega) (by omega), step _ _ (by omega) (by omega), step _ _ (by omega) (by omega), step _ _ (by omega) (by omega), step _ _ (by omega) (by omega)]
  rw [m_law02_CurveWrong_L6]
  have hl : ((([2, 2, 2, 2, 2, 2, 2, 2, 2] : List Int).length : Nat) : Int) = 9 := rfl
  simp only []
  rw [hl, if_neg (by decide)]
theorem wrong6' {k : Option Bool} {r1 r7 r8 : R} {l2 l4 l5 l6 l9 : List B} {l3 : List R} {n : Nat} (h : 10 ≤ n) : m_law02_CurveWrong_L6 (r1, 2) (l2, 2) (l3, 2) (l4, 2) (l5, 2) (l6, 2) (r7, 2) (r8, 2) (l9, 2) k n 0 = k := by
  obtain ⟨j, rfl⟩ : ∃ j, n = j + 10 := ⟨n - 10, by omega⟩
  exact wrong6 j
def WIDE : List B := (List.range 17).map fun (i : Nat) => ⟨⟨(i : Int), 1⟩, ⟨20 - (i : Int), 1⟩⟩
theorem wrong7 {k : List B → Option Bool} : ∀ (n : Nat) (o : List B) (v : Nat), v ≤ 17 → 17 < n + v → o = WIDE.take v → m_law02_CurveWrong_L7 k n o v = k WIDE
  | 0, o, v, h0, h1, h2 => by omega
  | n + 1, o, v, h0, h1, h2 => by
    rw [m_law02_CurveWrong_L7]
    unfold m_law02_num
    have hlen : WIDE.length = 17 := by simp [WIDE]
    by_cases h : v < 17
    · rw [if_pos (decide_eq_true (by omega)), Option.bind_some, Option.bind_some, i64_id (x := 20 - (v : Int)) (by omega)]
      have ho : o.length = v := by rw [h2, List.length_take]; omega
      rw [chk_pos (by simp only [List.length_append, List.length_cons, List.length_nil]; omega), i64_id (by omega)]
      have := wrong7 (k := k) n (o ++ [(⟨⟨(v : Int), 1⟩, ⟨20 - (v : Int), 1⟩⟩ : B)]) (v + 1) (by omega) (by omega) (by
        rw [h2, List.take_add_one]
        congr 1
        have : WIDE[v]? = some (⟨⟨(v : Int), 1⟩, ⟨20 - (v : Int), 1⟩⟩ : B) := by
          rw [List.getElem?_eq_getElem (by omega)]
          simp [WIDE]
        rw [this]; rfl)
      exact this
    · rw [if_neg (by simpa using by omega), h2, List.take_of_length_le (by omega)]
abbrev TWO : List B := [⟨⟨50, 1⟩, ⟨1, 1⟩⟩, ⟨⟨51, 1⟩, ⟨0, 1⟩⟩]
def err : Option (List B × Int) → Int
  | some x => x.2
  | none => -1
theorem wide_err : (m_curve_Sum WIDE TWO).isSome = true ∧ err (m_curve_Sum WIDE TWO) = 5 := by
  constructor <;> kernel_rfl
theorem wide_ok : (m_curve_Sum (WIDE.take (16 : Int).toNat) TWO).isSome = true ∧ err (m_curve_Sum (WIDE.take (16 : Int).toNat) TWO) = 0 := by
  constructor <;> kernel_rfl
theorem curveWrong_true {m : List Int} {at_ way : Int} (hm : ∀ x ∈ m, 0 ≤ x ∧ x ≤ 255) (ha : 0 ≤ at_ ∧ at_ ≤ 255) (hw : 0 ≤ way ∧ way ≤ 255) : m_law02_CurveWrong m at_ way = some true := by
  obtain ⟨c, e1, hc⟩ := small_eq hm
  have hl := hc.1; have hl4 := hc.2.1
  unfold m_law02_CurveWrong
  have hF : 1000 ≤ FUEL := by rw [FUEL_eq]; omega
  generalize FUEL = N at hF ⊢
  rw [e1, Option.bind_some, List.nil_append, chk_pos (by omega), chk_pos (by omega)]
  refine jp1_ex (P := fun o => o = _) fun k hk => ?_
  have g1 : ¬ (VC c = true ∧ GR ⟨-1, 1⟩ = true) := fun h => absurd h.2 (by decide +kernel)
  have g2 : ¬ (VC c = true ∧ GR ⟨1, 0⟩ = true) := fun h => absurd h.2 (by decide +kernel)
  have hend : ∀ bad, VC bad = false → k bad = some true := by
    intro bad hb
    have b1 : ∀ {q : Bool}, ¬ (VC bad = true ∧ q = true) := fun h => by rw [hb] at h; exact absurd h.1 (by decide)
    have b2 : ¬ (VC c = true ∧ VC bad = true) := fun h => by rw [hb] at h; exact absurd h.2 (by decide)
    have rb : m_curve_Rate bad = some (⟨0, 0⟩, 2) := by unfold m_curve_Rate; rw [curve_valid, hb]; rfl
    rw [hk]
    unfold m_law02_num
    simp only [Option.bind_some]
    have nb : m_curve_Norm bad = some ([], 2) := by rw [Norm_eq, hb]; rfl
    rw [at_bad b1, Option.bind_some, nb, Option.bind_some, Breaks_bad hb, Option.bind_some, Sum_bad b2, Option.bind_some, Min_bad b1, Option.bind_some, Shift_bad b1, Option.bind_some, rb, Option.bind_some, at_bad g1, Option.bind_some, Shift_bad g2, Option.bind_some]
    refine jp0_ex' (P := fun o => o = _) fun k1 hk1 => ?_
    rw [wrong6' (by omega), hk1]
    refine jp1_ex (P := fun o => o = _) fun k2 hk2 => ?_
    have h7 := wrong7 (k := k2) N [] 0 (by omega) (by omega) rfl
    rw [Int.natCast_zero] at h7
    rw [h7, hk2]
    obtain ⟨s1, w1⟩ := wide_err
    obtain ⟨s2, w2⟩ := wide_ok
    obtain ⟨y1, hy1⟩ := Option.isSome_iff_exists.1 s1
    obtain ⟨y2, hy2⟩ := Option.isSome_iff_exists.1 s2
    rw [hy1] at w1; rw [hy2] at w2
    have w1 : y1.2 = 5 := w1
    have w2 : y2.2 = 0 := w2
    rw [hy1, Option.bind_some, chk_pos (by simp [WIDE]), hy2, Option.bind_some, curve_valid, hb, w1, w2]
    simp [awake_eq]
  have hr : 0 ≤ at_ % (c.length : Int) ∧ at_ % (c.length : Int) < c.length := ⟨Int.emod_nonneg _ (by omega), Int.emod_lt_of_pos _ (by omega)⟩
  unfold m_law02_num
  simp only [Option.bind_some]
  rw [i64_id (x := at_) (by omega), tmod_id ha.1, tmod_id hw.1]
  rw [chk_pos hr, chk_pos hr, chk_pos hr]
  have hj : (at_ % (c.length : Int)).toNat < c.length := by omega
  by_cases h0 : way % 5 = 0
  · rw [if_pos (decide_eq_true h0)]
    exact hend _ (VC_no (mem_set hj) (by unfold GB; rw [show GR ⟨2, 4⟩ = false by decide +kernel]; rfl))
  rw [if_neg (by simpa using h0)]
  by_cases h1 : way % 5 = 1
  · rw [if_pos (decide_eq_true h1)]
    exact hend _ (VC_no (mem_set hj) (by unfold GB; rw [show GR ⟨-1, 2⟩ = false by decide +kernel, Bool.and_false]))
  rw [if_neg (by simpa using h1)]
  by_cases h2 : way % 5 = 2
  · rw [if_pos (decide_eq_true h2)]
    exact hend _ (VC_no (mem_set hj) (by unfold GB; rw [show GR ⟨0, 0⟩ = false by decide +kernel]; rfl))
  rw [if_neg (by simpa using h2)]
  by_cases h3 : way % 5 = 3
  · rw [if_pos (decide_eq_true h3)]
    exact hend _ (VC_len_no (by simp))
  rw [if_neg (by simpa using h3)]
  rw [if_pos (decide_eq_true (by omega)), chk_pos (by decide)]
  refine jp1_ex (P := fun o => o = _) fun k1 hk1 => ?_
  obtain ⟨d, ed, hd⟩ := wrong5 (k := k1) hl N (List.replicate (33 : Int).toNat ((⟨(⟨0, 0⟩ : Sapi_Rat), (⟨0, 0⟩ : Sapi_Rat)⟩ : Sapi_Bucket) : Sapi_Bucket)) 0 (by omega) (by omega) (by omega) (by rw [List.length_replicate]; rfl)
  rw [ed, hk1]
  exact hend d (VC_len_no (by omega))
end Go.Proofs.Ytbihfglmcjkdhaa
