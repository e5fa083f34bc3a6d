/- A part of this claim's proof: models of the functions that the law reaches, with the proof that the functions compute them; plain laws about the models. No conditions beyond those in each theorem's statement. -/
import Derived.Test.YtkhiiafgikioiaaPSpan
import Derived.Test.YtkhiiafgikioiaaWClockMeets
set_option linter.all false
namespace Go.Proofs.Ytkhiiafgikioiaa
open Go Go.RowKit Sep
theorem count_loop {c : List Sapi_Span} {t : Int} {k : Int → Option Int} (hl : (c.length : Int) ≤ 1000000) :
    ∀ (n : Nat) (m i : Int), 0 ≤ i → i ≤ c.length → c.length - i < n → 0 ≤ m → m ≤ i → m_law33_ClockMeets_1_L2 c t k n m i = k (m + (c.drop i.toNat).countP (has t)) := by
  intro n
  induction n with
  | zero => intro m i; omega
  | succ n ih =>
    intro m i h0 h1 h2 h3 h4
    rw [m_law33_ClockMeets_1_L2]
    by_cases hi : i < c.length
    · rw [if_pos (by simpa using hi)]
      simp only [jp1]
      rw [chk_pos ⟨h0, hi⟩, step64 h0 hi (by omega), i64_id (x := m + 1) (by omega), drop_cons h0 hi, List.countP_cons]
      by_cases hc : has t (nth c i) = true
      · have hc' := hc
        simp only [has, decide_eq_true_eq] at hc'
        rw [if_pos (by simpa using hc'), if_pos hc, ih (m + 1) (i + 1) (by omega) (by omega) (by omega) (by omega) (by omega)]
        congr 1; omega
      · have hc' := hc
        simp only [has, decide_eq_true_eq] at hc'
        rw [if_neg (by simpa using hc'), if_neg hc, ih m (i + 1) (by omega) (by omega) (by omega) (by omega) (by omega)]
        congr 1
    · rw [if_neg (by simpa using hi), drop_end hi]; simp
theorem count_eq {c : List Sapi_Span} {t : Int} (hl : (c.length : Int) ≤ 1000000) : m_law33_ClockMeets_1 t c = some ((c.countP (has t) : Nat) : Int) := by
  unfold m_law33_ClockMeets_1
  simp only [jp1]
  rw [count_loop hl FUEL 0 0 (by omega) (by omega) (by rw [FUEL_eq]; omega) (by omega) (by omega)]
  simp
theorem meets_loop {x m : List Int} {k : List Sapi_Span → Option Bool} (hl : (x.length : Int) ≤ 16) (hx : ∀ y ∈ x, -1000 ≤ y ∧ y ≤ 1000) :
    ∀ (n : Nat) (sp : List Sapi_Span) (i : Int), 0 ≤ i → i ≤ x.length → x.length - i < n → (sp.length : Int) = i → (∀ s ∈ sp, -1000 ≤ s.fLo ∧ s.fLo ≤ s.fHi ∧ s.fHi ≤ 3000) →
      ∃ sp', m_law33_ClockMeets_L3 x m k n x i sp = k sp' ∧ sp'.length = x.length ∧ (∀ s ∈ sp', -1000 ≤ s.fLo ∧ s.fLo ≤ s.fHi ∧ s.fHi ≤ 3000) := by
  intro n
  induction n with
  | zero => intro sp i; omega
  | succ n ih =>
    intro sp i h0 h1 h2 h3 h4
    rw [m_law33_ClockMeets_L3]
    by_cases hi' : i < x.length
    · have hb := hx _ (nth_mem h0 hi')
      rw [if_pos (by simpa using hi'), chk_pos ⟨h0, hi'⟩]
      simp only [jp1]
      have step : ∀ w : Int, 0 ≤ w ∧ w ≤ 255 → ∃ sp', chk ((((sp ++ [(⟨(nth x i), i64 ((nth x i) + w)⟩ : Sapi_Span)]).length : Nat) : Int) * 16 ≤ 140737488355328 ∧ (((sp ++ [(⟨(nth x i), i64 ((nth x i) + w)⟩ : Sapi_Span)]).length : Nat) : Int) ≤ 4611686018427387904) (m_law33_ClockMeets_L3 x m k n x (i64 (i + 1)) (sp ++ [(⟨(nth x i), i64 ((nth x i) + w)⟩ : Sapi_Span)])) = k sp' ∧ sp'.length = x.length ∧ (∀ s ∈ sp', -1000 ≤ s.fLo ∧ s.fLo ≤ s.fHi ∧ s.fHi ≤ 3000) := by
        intro w hw
        rw [chk_pos (by simp; omega), i64_id (x := i + 1) (by omega), i64_id (x := nth x i + w) (by omega)]
        refine ih _ (i + 1) (by omega) (by omega) (by omega) (by simp; omega) ?_
        intro s hs
        rcases List.mem_append.1 hs with hs | hs
        · exact h4 s hs
        · simp at hs; subst hs; simp only; omega
      by_cases hm : i < m.length
      · rw [if_pos (by simpa using hm), chk_pos ⟨h0, hm⟩]
        exact step _ (and_le (x := i64 (nth m i)) (m := 255) (by omega))
      · rw [if_neg (by simpa using hm)]
        exact step 0 (by omega)
    · rw [if_neg (by simpa using hi')]
      exact ⟨sp, rfl, by omega, h4⟩
theorem some_loop {c : List Sapi_Span} {n : Int} {r : Sapi_Span × Int} {k : Bool → Bool → Bool → List Sapi_Span → Option Bool} (hl : (c.length : Int) ≤ 16) (hf : 0 ≤ Int.tmod (i64 n) 8 ∧ Int.tmod (i64 n) 8 ≤ 7) :
    ∀ (m : Nat) (so lo hi : Bool) (i : Int), 0 ≤ i → i ≤ c.length → c.length - i < m →
      m_law33_ClockMeets_L4 c n r k m so lo hi c i = k (so || (c.drop i.toNat).any (fun s => al c (Int.tmod (i64 n) 8) s.fLo || al c (Int.tmod (i64 n) 8) s.fHi)) (lo || (c.drop i.toNat).any (fun s => decide (s.fLo = r.1.fLo))) (hi || (c.drop i.toNat).any (fun s => decide (s.fHi = r.1.fHi))) c := by
  intro m
  induction m with
  | zero => intro so lo hi i; omega
  | succ m ih =>
    intro so lo hi i h0 h1 h2
    rw [m_law33_ClockMeets_L4]
    by_cases hi' : i < c.length
    · rw [if_pos (by simpa using hi'), chk_pos ⟨h0, hi'⟩, step64 h0 hi' (by omega), count_eq (by omega), count_eq (by omega)]
      simp only [Option.bind_some]
      have e : ∀ (b : Bool) (t : Int), (if b = true then some true else some (decide (((c.countP (has t) : Nat) : Int) ≥ i64 ((c.length : Int) - Int.tmod (i64 n) 8)))) = some (b || al c (Int.tmod (i64 n) 8) t) := by
        intro b t
        cases b
        · rw [i64_id (by omega)]
          simp only [Bool.false_eq_true, if_false, Bool.false_or, al]
        · rfl
      rw [e, Option.bind_some, e, Option.bind_some, ih _ _ _ (i + 1) (by omega) (by omega) (by omega), drop_cons h0 hi']
      simp only [List.any_cons, Bool.or_assoc]
    · rw [if_neg (by simpa using hi'), drop_end hi']; simp
theorem clockMeets_true {l m : List Int} {n t0 : Int} (hl : (l.length : Int) ≤ 9223372036854775807) (hx : ∀ x ∈ l, -32768 ≤ x ∧ x ≤ 32767) (hn : 0 ≤ n ∧ n ≤ 255) (ht0 : -32768 ≤ t0 ∧ t0 ≤ 32767) : m_law33_ClockMeets l m n t0 = some true := by
  unfold m_law33_ClockMeets
  have hf := f8 hn
  obtain ⟨t, ht, ok⟩ := times_eq hf hl hx
  obtain ⟨o1, o2, o3, o4⟩ := ok
  rw [ht, Option.bind_some]
  refine jp1_use fun k hk => ?_
  obtain ⟨sp, he, e1, e2⟩ := meets_loop (x := t) (m := m) (k := k) o3 o4 FUEL [] 0 (by omega) (by omega) (by rw [FUEL_eq]; omega) rfl (by simp)
  rw [he, hk]
  obtain ⟨r, hr, R⟩ := meet_res (l := sp) (f := Int.tmod (i64 n) 8) (by omega) (by omega) e2
  rw [hr, Option.bind_some]
  refine jp4_use fun k2 hk2 => ?_
  rw [some_loop (by omega) hf FUEL _ _ _ 0 (by omega) (by omega) (by rw [FUEL_eq]; omega), hk2]
  simp only [Int.toNat_zero, List.drop_zero, Bool.false_or]
  generalize Int.tmod (i64 n) 8 = f at hf R o1 ⊢
  have hcnt : ∀ t, ((sp.countP (has t) : Nat) : Int) < i64 ((sp.length : Int) - f) ↔ al sp f t = false := by
    intro t
    rw [i64_id (by omega)]
    simp only [al, decide_eq_false_iff_not]; omega
  cases R with
  | none h =>
    have hso : sp.any (fun s => al sp f s.fLo || al sp f s.fHi) = false := by
      rw [List.any_eq_false]; intro s _; rw [h, h]; simp
    rw [hso]
    simp only [Bool.not_false, if_true, decide_true, Bool.and_self]
    rw [count_eq (by omega), Option.bind_some, decide_eq_true ((hcnt _).2 (h _)), Option.bind_some, if_pos rfl, awake_true]
    rfl
  | some a b a1 a2 a3 a4 a5 =>
    obtain ⟨s1, hs1, ea⟩ := a1
    obtain ⟨s2, hs2, eb⟩ := a2
    have hso : sp.any (fun s => al sp f s.fLo || al sp f s.fHi) = true := List.any_eq_true.2 ⟨s1, hs1, by rw [ea, a3]; rfl⟩
    have hlo : sp.any (fun s => decide (s.fLo = a)) = true := List.any_eq_true.2 ⟨s1, hs1, by simpa using ea⟩
    have hhi : sp.any (fun s => decide (s.fHi = b)) = true := List.any_eq_true.2 ⟨s2, hs2, by simpa using eb⟩
    have hab := a5 a a3
    rw [hso, hlo, hhi]
    simp only [Bool.not_true, Bool.false_eq_true, if_false, Bool.or_false]
    rw [if_neg (by simp; omega), count_eq (by omega), Option.bind_some]
    have n1 : decide (((sp.countP (has a) : Nat) : Int) < i64 ((sp.length : Int) - f)) = false := decide_eq_false (fun h => by rw [(hcnt a).1 h] at a3; cases a3)
    have n2 : decide (((sp.countP (has b) : Nat) : Int) < i64 ((sp.length : Int) - f)) = false := decide_eq_false (fun h => by rw [(hcnt b).1 h] at a4; cases a4)
    rw [n1, Option.bind_some, if_neg (by simp), count_eq (by omega), Option.bind_some, n2, Option.bind_some, if_neg (by simp), count_eq (by omega), Option.bind_some]
    have hfin : (decide (((sp.countP (has (Int.tmod (i64 t0) 1300)) : Nat) : Int) < i64 ((sp.length : Int) - f)) || (decide (a ≤ Int.tmod (i64 t0) 1300) && decide (Int.tmod (i64 t0) 1300 ≤ b))) = true := by
      cases hal : al sp f (Int.tmod (i64 t0) 1300) with
      | false => rw [decide_eq_true ((hcnt _).2 hal)]; rfl
      | true =>
        have := a5 _ hal
        rw [Bool.or_eq_true]; right; simp; omega
    rw [if_pos hfin, awake_true]
    rfl
end Go.Proofs.Ytkhiiafgikioiaa
