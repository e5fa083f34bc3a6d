/- A part of this claim's proof: models of the functions that the law reaches, with the proof that the functions compute them; plain laws about the models. No conditions beyond those in each theorem's statement. -/
import Derived.Test.YtkhiiafgikioiaaPTrue
set_option linter.all false
namespace Go.Proofs.Ytkhiiafgikioiaa
open Go Go.RowKit Sep
def bad (lo hi : Int) (l : List Int) : Nat := l.countP (fun y => !decide (lo ≤ y ∧ y ≤ hi))
theorem bad_mono {lo hi lo' hi' : Int} {l : List Int} (h1 : lo' ≤ lo) (h2 : hi ≤ hi') : bad lo' hi' l ≤ bad lo hi l :=
  countP_pair (fun x _ hx => by simp at hx ⊢; omega)
theorem bad_snoc (lo hi : Int) (l : List Int) (x : Int) : bad lo hi (l ++ [x]) = bad lo hi l + if lo ≤ x ∧ x ≤ hi then 0 else 1 := by
  unfold bad
  rw [List.countP_append, List.countP_singleton]
  by_cases h : lo ≤ x ∧ x ≤ hi <;> simp [h]
theorem mid_between {t : List Int} {f lo hi : Int} (hok : okN t.length f) (hb : (bad lo hi t : Int) ≤ f) : lo ≤ mid t f ∧ mid t f ≤ hi := by
  have h1 : lo ≤ stat t f := stat_ge (by omega) (by omega) (by
    have : t.countP (fun x => decide (x < lo)) ≤ bad lo hi t := countP_pair (fun x _ hx => by simp at hx ⊢; omega)
    omega)
  have h2 : stat t (t.length - 1 - f) ≤ hi := stat_le (by omega) (by omega) (by
    have h3 : t.length ≤ t.countP (fun x => decide (x ≤ hi)) + bad lo hi t := by
      have := List.length_eq_countP_add_countP (l := t) (fun x => decide (x ≤ hi))
      have h4 : t.countP (fun a => decide ¬(decide (a ≤ hi) = true)) ≤ bad lo hi t := countP_pair (fun x _ hx => by simp at hx ⊢; omega)
      omega
    omega)
  have h3 : stat t f ≤ stat t (t.length - 1 - f) := stat_mono (by omega) (by omega) (by omega)
  unfold mid
  omega
theorem set_take {α : Type} [Inhabited α] {t : List α} {i : Int} {v : α} (h0 : 0 ≤ i) (h1 : i < t.length) : (t.set i.toNat v).take (i + 1).toNat = t.take i.toNat ++ [v] := by
  rw [show (i + 1).toNat = i.toNat + 1 from by omega, List.take_succ_eq_append_getElem (by simp; omega), List.take_set_of_le (Nat.le_refl _)]
  simp
theorem set_drop {α : Type} {t : List α} {i : Int} {v : α} (h0 : 0 ≤ i) : (t.set i.toNat v).drop (i + 1).toNat = t.drop (i + 1).toNat := by
  rw [List.drop_set_of_lt (by omega)]
theorem true_loop {x lies : List Int} {faulty n : Int} {k : List Int → Int → Int → Option Bool} (hlies : ∀ y ∈ lies, -32768 ≤ y ∧ y ≤ 32767) (hx : (x.length : Int) ≤ 16) (hf : 0 ≤ Int.tmod (i64 n) 8 ∧ Int.tmod (i64 n) 8 ≤ 7) :
    ∀ (m : Nat) (t : List Int) (lo hi used i : Int), 0 ≤ i → i ≤ x.length → x.length - i < m → t.length = x.length → (∀ y ∈ t, -983040000 ≤ y ∧ y ≤ 983040000) → 0 ≤ used → used ≤ Int.tmod (i64 n) 8 → used ≤ i → (bad lo hi (t.take i.toNat) : Int) ≤ used →
      ∃ t' lo' hi', m_law33_ClockTrue_L2 x faulty n lies k m t lo hi used i = k t' lo' hi' ∧ t'.length = x.length ∧ (∀ y ∈ t', -983040000 ≤ y ∧ y ≤ 983040000) ∧ (bad lo' hi' t' : Int) ≤ Int.tmod (i64 n) 8 := by
  intro m
  induction m with
  | zero => intro t lo hi used i; omega
  | succ m ih =>
    intro t lo hi used i h0 h1 h2 h3 h4 h5 h6 h6' h7
    rw [m_law33_ClockTrue_L2]
    by_cases hi' : i < x.length
    · rw [if_pos (by simpa using hi')]
      simp only [jp4, jp1]
      rw [chk_pos h0]
      by_cases hc : (decide ((bits .and .u16 (faulty / 2 ^ min (i : Int).toNat 16) 1) = 1) && decide (used < Int.tmod (i64 n) 8)) = true
      · rw [if_pos hc]
        have hu : used < Int.tmod (i64 n) 8 := by simp at hc; exact hc.2
        by_cases hl : used < lies.length
        · have hv := hlies _ (nth_mem h5 hl)
          rw [if_pos (by simpa using hl), chk_pos ⟨h5, hl⟩, chk_pos ⟨h0, by omega⟩, i64_id (x := used + 1) (by omega), i64_id (x := i + 1) (by omega), i64_id (x := nth lies used) (by omega), i64_id (x := nth lies used * 30000) (by omega)]
          refine ih _ lo hi (used + 1) (i + 1) (by omega) (by omega) (by omega) (by simpa using h3) ?_ (by omega) (by omega) (by omega) ?_
          · intro y hy
            rcases List.mem_or_eq_of_mem_set hy with hy | rfl
            · exact h4 y hy
            · omega
          · rw [set_take h0 (by omega), bad_snoc]; split <;> omega
        · rw [if_neg (by simpa using hl), i64_id (x := used + 1) (by omega), i64_id (x := i + 1) (by omega)]
          refine ih _ lo hi (used + 1) (i + 1) (by omega) (by omega) (by omega) h3 h4 (by omega) (by omega) (by omega) ?_
          rw [take_succ t h0 (by omega), bad_snoc]; split <;> omega
      · rw [if_neg hc, chk_pos ⟨h0, by omega⟩, i64_id (x := i + 1) (by omega)]
        refine ih t _ _ used (i + 1) (by omega) (by omega) (by omega) h3 h4 h5 h6 (by omega) ?_
        rw [take_succ t h0 (by omega), bad_snoc, if_pos (by omega)]
        have := bad_mono (lo := lo) (hi := hi) (lo' := min lo (nth t i)) (hi' := max hi (nth t i)) (l := t.take i.toNat) (by omega) (by omega)
        omega
    · rw [if_neg (by simpa using hi')]
      refine ⟨t, lo, hi, rfl, h3, h4, ?_⟩
      rw [List.take_of_length_le (by omega)] at h7
      omega
theorem clockTrue_true {l : List Int} {n faulty : Int} {lies : List Int} (hl : (l.length : Int) ≤ 9223372036854775807) (hx : ∀ x ∈ l, -32768 ≤ x ∧ x ≤ 32767) (hn : 0 ≤ n ∧ n ≤ 255) (hlies : ∀ y ∈ lies, -32768 ≤ y ∧ y ≤ 32767) :
    m_law33_ClockTrue l n faulty lies = some true := by
  unfold m_law33_ClockTrue
  have hf := f8 hn
  obtain ⟨t, ht, ok⟩ := times_eq hf hl hx
  obtain ⟨o1, o2, o3, o4⟩ := ok
  rw [ht, Option.bind_some]
  simp only [jp3]
  obtain ⟨t', lo, hi, he, e1, e2, e3⟩ := true_loop (x := t) (lies := lies) (faulty := faulty) (n := n) (k := fun t_23180 lo_23183 hi_23184 => (m_clock_Midpoint t_23180 (Int.tmod (i64 n) 8)).bind fun x_23498 => (if ((decide (x_23498.2 = 0)) && (decide (lo_23183 ≤ x_23498.1))) && (decide (x_23498.1 ≤ hi_23184)) then (m_law33_awake).bind fun x_23500 => some x_23500 else some false).bind fun b_23502 => some b_23502)
    hlies o3 hf FUEL t 1073741824 (-1073741824) 0 0 (by omega) (by omega) (by rw [FUEL_eq]; omega) rfl (fun y hy => by have := o4 y hy; omega) (by omega) (by omega) (by omega) (by simp [bad])
  rw [he, midpoint_eq (by omega), Option.bind_some]
  have hok : midOk t' (Int.tmod (i64 n) 8) = true := by
    unfold midOk
    rw [Bool.and_eq_true, decide_eq_true_eq, List.all_eq_true]
    exact ⟨by omega, fun y hy => by have := e2 y hy; simp [inT]; omega⟩
  have hb := mid_between (t := t') (f := Int.tmod (i64 n) 8) (lo := lo) (hi := hi) (by omega) e3
  rw [if_pos hok, if_pos (by simp; omega), awake_true]
  rfl
end Go.Proofs.Ytkhiiafgikioiaa
