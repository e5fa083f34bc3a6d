/- A part of this claim's proof: models of the functions that the law reaches, with the proof that the functions compute them; plain laws about the models. No conditions beyond those in each theorem's statement. -/
import Derived.Test.YtkhiiafgikioiaaP1
set_option linter.all false
namespace Go.Proofs.Ytkhiiafgikioiaa
open Go Go.RowKit Sep
/-- smaller ones, and equal ones ahead of i, from place j on -/
def cntF (v i : Int) : Int → List Int → Int
  | _, [] => 0
  | j, x :: xs => (if x < v ∨ (x = v ∧ j < i) then 1 else 0) + cntF v i (j + 1) xs
theorem cntF_bd (v i : Int) : ∀ (j : Int) (l : List Int), 0 ≤ cntF v i j l ∧ cntF v i j l ≤ l.length
  | _, [] => by simp [cntF]
  | j, x :: xs => by have := cntF_bd v i (j + 1) xs; simp only [cntF, List.length_cons]; split <;> omega
theorem cntF_eq (v i : Int) : ∀ (l : List Int) (j : Int), cntF v i j l = l.countP (fun x => decide (x < v)) + (l.take (i - j).toNat).countP (fun x => decide (x = v))
  | [], j => by simp [cntF]
  | x :: xs, j => by
    have ih := cntF_eq v i xs (j + 1)
    simp only [cntF, ih, List.countP_cons]
    by_cases hj : j < i
    · rw [show (i - j).toNat = (i - (j + 1)).toNat + 1 from by omega, List.take_succ_cons, List.countP_cons]
      by_cases h1 : x < v
      · rw [if_pos (.inl h1), if_pos (by simpa using h1), if_neg (by simp; omega)]; omega
      · by_cases h2 : x = v
        · rw [if_pos (.inr ⟨h2, hj⟩), if_neg (by simpa using h1), if_pos (by simpa using h2)]; omega
        · rw [if_neg (by omega), if_neg (by simpa using h1), if_neg (by simpa using h2)]; omega
    · rw [show (i - j).toNat = 0 from by omega, show (i - (j + 1)).toNat = 0 from by omega]
      simp only [List.take_zero, List.countP_nil]
      by_cases h1 : x < v
      · rw [if_pos (.inl h1), if_pos (by simpa using h1)]; omega
      · rw [if_neg (by omega), if_neg (by simpa using h1)]; omega
theorem rank_inner {l : List Int} {i : Int} {k : Int → Option Int} (hi : 0 ≤ i ∧ i < l.length) (hl : (l.length : Int) ≤ 1000000) :
    ∀ (n : Nat) (c j : Int), 0 ≤ j → j ≤ l.length → l.length - j < n → 0 ≤ c → c ≤ j → m_ref33_rank_L4 l i k n c j = k (c + cntF (nth l i) i j (l.drop j.toNat)) := by
  intro n
  induction n with
  | zero => intro c j; omega
  | succ n ih =>
    intro c j h0 h1 h2 h3 h4
    rw [m_ref33_rank_L4]
    by_cases hj : j < l.length
    · rw [if_pos (by simpa using hj)]
      simp only [jp1]
      rw [chk_pos ⟨h0, hj⟩, chk_pos hi, chk_pos (fun _ => ⟨h0, hj⟩), chk_pos (fun _ => hi), step64 h0 hj (by omega), i64_id (x := c + 1) (by omega), drop_cons h0 hj]
      simp only [cntF]
      by_cases hc : nth l j < nth l i ∨ (nth l j = nth l i ∧ j < i)
      · rw [if_pos (by simpa using hc), if_pos hc, ih (c + 1) (j + 1) (by omega) (by omega) (by omega) (by omega) (by omega), Int.add_assoc]
      · rw [if_neg (by simpa using hc), if_neg hc, ih c (j + 1) (by omega) (by omega) (by omega) (by omega) (by omega), Int.zero_add]
    · rw [if_neg (by simpa using hj), drop_end hj]; simp [cntF]
def rk (l : List Int) (i : Int) : Int := l.countP (fun x => decide (x < nth l i)) + (l.take i.toNat).countP (fun x => decide (x = nth l i))
theorem rank_outer {l : List Int} {q : Int} {k : Option Int} (hl : (l.length : Int) ≤ 1000000) (v : Int) (hv : ∀ i : Int, 0 ≤ i → i < l.length → rk l i = q → nth l i = v) :
    ∀ (n : Nat) (i : Int), 0 ≤ i → i ≤ l.length → l.length - i < n → (∃ i' : Int, i ≤ i' ∧ i' < l.length ∧ rk l i' = q) → m_ref33_rank_L3 l q k n i = some v := by
  intro n
  induction n with
  | zero => intro i; omega
  | succ n ih =>
    rintro i h0 h1 h2 ⟨i', e1, e2, e3⟩
    rw [m_ref33_rank_L3, if_pos (by simp; omega)]
    simp only [jp0, jp1]
    rw [rank_inner ⟨h0, by omega⟩ hl FUEL 0 0 (by omega) (by omega) (by rw [FUEL_eq]; omega) (by omega) (by omega), Int.toNat_zero, List.drop_zero, cntF_eq, Int.zero_add, Int.sub_zero]
    by_cases hq : rk l i = q
    · rw [if_pos (by rw [← hq]; simp [rk]), chk_pos ⟨h0, by omega⟩, hv i h0 (by omega) hq]
    · rw [if_neg (by unfold rk at hq; simpa using hq), step64 h0 (n := l.length) (by omega) (by omega)]
      refine ih (i + 1) (by omega) (by omega) (by omega) ⟨i', ?_, e2, e3⟩
      rcases Int.lt_or_le i i' with h | h
      · omega
      · exact absurd (by rwa [show i = i' from by omega]) hq
theorem nth_occ {v : Int} : ∀ (l : List Int) (m : Nat), m < l.countP (fun x => decide (x = v)) → ∃ i : Nat, i < l.length ∧ l[i]? = some v ∧ (l.take i).countP (fun x => decide (x = v)) = m
  | [], m, h => by simp at h
  | x :: xs, m, h => by
    rw [List.countP_cons] at h
    by_cases hx : x = v
    · cases m with
      | zero => exact ⟨0, by simp, by simp [hx], by simp⟩
      | succ m =>
        rw [if_pos (by simpa using hx)] at h
        obtain ⟨i, h1, h2, h3⟩ := nth_occ (v := v) xs m (by omega)
        exact ⟨i + 1, by simpa using h1, by simpa using h2, by simp [hx, h3]⟩
    · rw [if_neg (by simpa using hx)] at h
      obtain ⟨i, h1, h2, h3⟩ := nth_occ (v := v) xs m (by omega)
      exact ⟨i + 1, by simpa using h1, by simpa using h2, by simp [hx, h3]⟩
theorem count_le {l : List Int} {v : Int} : l.countP (fun x => decide (x ≤ v)) = l.countP (fun x => decide (x < v)) + l.countP (fun x => decide (x = v)) := by
  induction l with
  | nil => rfl
  | cons x l ih =>
    simp only [List.countP_cons, ih]
    by_cases h1 : x < v
    · rw [if_pos (by simp; omega), if_pos (by simpa using h1), if_neg (by simp; omega)]; omega
    · by_cases h2 : x = v
      · rw [if_pos (by simp; omega), if_neg (by simpa using h1), if_pos (by simpa using h2)]; omega
      · rw [if_neg (by simp; omega), if_neg (by simpa using h1), if_neg (by simpa using h2)]; omega
theorem rank_eq {l : List Int} {q : Int} (hl : (l.length : Int) ≤ 1000000) (h0 : 0 ≤ q) (h1 : q < l.length) : m_ref33_rank l q = some (stat l q) := by
  unfold m_ref33_rank
  simp only [jp0]
  have hs := stat_count h0 h1
  refine rank_outer hl (stat l q) (fun i hi0 hi1 hr => ?_) FUEL 0 (by omega) (by omega) (by rw [FUEL_eq]; omega) ?_
  · unfold rk at hr
    refine (stat_unique h0 h1 (by omega) ?_).symm
    rw [count_le]
    have : (l.take i.toNat).countP (fun x => decide (x = nth l i)) < l.countP (fun x => decide (x = nth l i)) := by
      have h' : ∀ v, v = nth l i → (l.take i.toNat).countP (fun x => decide (x = v)) < l.countP (fun x => decide (x = v)) := by
        intro v hv
        have e := congrArg (List.countP (fun x => decide (x = v))) (List.take_append_drop i.toNat l)
        rw [List.countP_append, drop_cons hi0 hi1, List.countP_cons, if_pos (by simp [hv])] at e
        omega
      exact h' _ rfl
    omega
  · rw [count_le] at hs
    obtain ⟨i, e1, e2, e3⟩ := nth_occ (v := stat l q) l (q.toNat - l.countP (fun x => decide (x < stat l q))) (by omega)
    have hn : nth l (i : Int) = stat l q := by
      rw [← nth_lt (by omega) (by omega)]
      simpa [List.getElem?_eq_getElem e1] using e2
    refine ⟨i, by omega, by omega, ?_⟩
    unfold rk
    rw [hn, Int.toNat_natCast, e3]; omega
theorem rmid_loop {l : List Int} {k : Option (Int × Int)} (hl : (l.length : Int) ≤ 1000000) :
    ∀ (n : Nat) (i : Int), 0 ≤ i → i ≤ l.length → l.length - i < n → m_ref33_Midpoint_L2 l k n i = if (l.drop i.toNat).all inT = true then k else some (0, 2) := by
  intro n
  induction n with
  | zero => intro i; omega
  | succ n ih =>
    intro i h0 h1 h2
    rw [m_ref33_Midpoint_L2]
    by_cases hi : i < l.length
    · rw [if_pos (by simpa using hi), chk_pos ⟨h0, hi⟩, rin_eq, Option.bind_some, drop_cons h0 hi, List.all_cons]
      cases inT (nth l i)
      · simp
      · simp only [Bool.not_true, Bool.false_eq_true, if_false, Bool.true_and]
        rw [step64 h0 hi (by omega), ih (i + 1) (by omega) (by omega) (by omega)]
    · rw [if_neg (by simpa using hi), drop_end hi]; simp
theorem half_eq (s : Int) (h : -2147483648 ≤ s ∧ s ≤ 2147483648) {R : Type} (k : Int → Option R) :
    (if (decide (s < 0)) && (decide ((Int.tmod s 2) ≠ 0)) then k (i64 ((i64 (Int.tdiv s 2)) - 1)) else k (i64 (Int.tdiv s 2))) = k (s / 2) := by
  by_cases h0 : 0 ≤ s
  · rw [if_neg (by simp; omega), tdivp h0, i64_id (by omega)]
  · obtain ⟨m, rfl⟩ : ∃ m, s = -m := ⟨-s, by omega⟩
    have e1 : Int.tdiv (-m) 2 = -(m / 2) := by rw [Int.neg_tdiv, tdivp (by omega)]
    have e2 : Int.tmod (-m) 2 = -(m % 2) := by rw [Int.neg_tmod, tmodp (by omega)]
    rw [e1, e2, i64_id (x := -(m / 2)) (by omega), i64_id (by omega)]
    by_cases hm : m % 2 = 0
    · rw [if_neg (by simp [hm])]; congr 1; omega
    · rw [if_pos (by simp; omega)]; congr 1; omega
theorem rmidpoint_eq {l : List Int} {f : Int} (hl : (l.length : Int) ≤ 1000000) : m_ref33_Midpoint l f = some (if midOk l f = true then (mid l f, 0) else (0, 2)) := by
  unfold m_ref33_Midpoint midOk
  rw [rfits_eq, Option.bind_some]
  by_cases hok : okN l.length f
  · have hok' := hok
    rw [decide_eq_true hok]
    simp only [Bool.not_true, Bool.false_eq_true, if_false, Bool.true_and, jp0]
    rw [rmid_loop hl FUEL 0 (by omega) (by omega) (by rw [FUEL_eq]; omega), Int.toNat_zero, List.drop_zero]
    cases hin : l.all inT
    · rfl
    · simp only [if_true]
      rw [i64_id (x := (l.length : Int) - 1) (by omega), i64_id (x := (l.length : Int) - 1 - f) (by omega)]
      rw [rank_eq hl (by omega) (by omega), Option.bind_some, rank_eq hl (by omega) (by omega), Option.bind_some]
      have h1 := stat_mem (l := l) (k := f) (by omega) (by omega)
      have h2 := stat_mem (l := l) (k := l.length - 1 - f) (by omega) (by omega)
      have ha := List.all_eq_true.1 hin
      have b1 := ha _ h1
      have b2 := ha _ h2
      simp only [inT, decide_eq_true_eq] at b1 b2
      rw [i64_id (by omega)]
      simp only [jp1]
      exact (half_eq _ (by omega) (fun x => some (x, (0 : Int)))).trans rfl
  · rw [decide_eq_false hok]; rfl
end Go.Proofs.Ytkhiiafgikioiaa
