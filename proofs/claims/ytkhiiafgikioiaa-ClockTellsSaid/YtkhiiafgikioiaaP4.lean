/- A part of this claim's proof: models of the functions that the law reaches, with the proof that the functions compute them; plain laws about the models. No conditions beyond those in each theorem's statement. -/
import Derived.Test.YtkhiiafgikioiaaP3
import Derived.Test.YtkhiiafgikioiaaWClockTells
set_option linter.all false
namespace Go.Proofs.Ytkhiiafgikioiaa
open Go Go.RowKit Sep
theorem rmeet4 {l : List Sapi_Span} {k : Option (Sapi_Span × Int)} (hl : (l.length : Int) ≤ 1000000) :
    ∀ (n : Nat) (i : Int), 0 ≤ i → i ≤ l.length → l.length - i < n → m_ref33_Meet_L4 l k n i = if (l.drop i.toNat).all okS = true then k else some (⟨0, 0⟩, 2) := by
  intro n
  induction n with
  | zero => intro i; omega
  | succ n ih =>
    intro i h0 h1 h2
    rw [m_ref33_Meet_L4]
    by_cases hi : i < l.length
    · rw [if_pos (by simpa using hi), chk_pos ⟨h0, hi⟩]
      simp only [rin_eq, Option.bind_some]
      rw [drop_cons h0 hi, List.all_cons]
      have hok : okS (nth l i) = (inT (nth l i).fLo && inT (nth l i).fHi && decide ((nth l i).fLo ≤ (nth l i).fHi)) := rfl
      rw [hok, chk_pos ⟨h0, hi⟩]
      cases inT (nth l i).fLo <;> cases inT (nth l i).fHi
      · simp [chk]
      · simp [chk]
      · simp [chk]
      · simp only [Bool.not_true, Bool.false_eq_true, if_false, Option.bind_some, Bool.true_and, Bool.false_or]
        rw [chk_pos (fun _ => ⟨h0, hi⟩)]
        by_cases hc : (nth l i).fLo ≤ (nth l i).fHi
        · rw [if_neg (by simp; omega), step64 h0 hi (by omega), ih (i + 1) (by omega) (by omega) (by omega), decide_eq_true hc]; rfl
        · rw [if_pos (by simp; omega), decide_eq_false hc]; rfl
    · rw [if_neg (by simpa using hi), drop_end hi]; simp
/-- lo and hi over the elements -/
def f5 (l : List Sapi_Span) (f : Int) : Int × Int → List Sapi_Span → Int × Int
  | p, [] => p
  | p, s :: xs => f5 l f (if al l f s.fLo = true ∧ (p.1 > p.2 ∨ s.fLo < p.1) then (s.fLo, if p.1 > p.2 then s.fLo else p.2) else p) xs
theorem rmeet5 {l : List Sapi_Span} {f : Int} {k : Int → Int → Option (Sapi_Span × Int)} (hl : (l.length : Int) ≤ 1000000) (hf : -1000000 ≤ f ∧ f ≤ 1000000) :
    ∀ (n : Nat) (i a b : Int), 0 ≤ i → i ≤ l.length → l.length - i < n → m_ref33_Meet_L5 l f k n i a b = k (f5 l f (a, b) (l.drop i.toNat)).1 (f5 l f (a, b) (l.drop i.toNat)).2 := by
  intro n
  induction n with
  | zero => intro i; omega
  | succ n ih =>
    intro i a b h0 h1 h2
    rw [m_ref33_Meet_L5]
    by_cases hi : i < l.length
    · rw [if_pos (by simpa using hi)]
      simp only [jp2, jp1]
      rw [chk_pos ⟨h0, hi⟩, allowed_eq hl hf, Option.bind_some, chk_pos (fun _ _ => ⟨h0, hi⟩), step64 h0 hi (by omega), drop_cons h0 hi]
      simp only [f5]
      by_cases hc : al l f (nth l i).fLo = true ∧ (a > b ∨ (nth l i).fLo < a)
      · rw [if_pos (by simp; exact hc), if_pos hc]
        by_cases hab : a > b
        · rw [if_pos (by simpa using hab), if_pos hab, chk_pos ⟨h0, hi⟩, chk_pos ⟨h0, hi⟩, ih (i + 1) _ _ (by omega) (by omega) (by omega)]
        · rw [if_neg (by simpa using hab), if_neg hab, chk_pos ⟨h0, hi⟩, ih (i + 1) _ _ (by omega) (by omega) (by omega)]
      · rw [if_neg (by simp only [Bool.and_eq_true, Bool.or_eq_true, decide_eq_true_eq]; exact hc), if_neg hc, ih (i + 1) _ _ (by omega) (by omega) (by omega)]
    · rw [if_neg (by simpa using hi), drop_end hi]; simp [f5]
def f6 (l : List Sapi_Span) (f : Int) : Int → List Sapi_Span → Int
  | p, [] => p
  | p, s :: xs => f6 l f (if al l f s.fHi = true ∧ s.fHi > p then s.fHi else p) xs
theorem rmeet6 {l : List Sapi_Span} {f : Int} {k : Int → Option (Sapi_Span × Int)} (hl : (l.length : Int) ≤ 1000000) (hf : -1000000 ≤ f ∧ f ≤ 1000000) :
    ∀ (n : Nat) (i a : Int), 0 ≤ i → i ≤ l.length → l.length - i < n → m_ref33_Meet_L6 l f k n i a = k (f6 l f a (l.drop i.toNat)) := by
  intro n
  induction n with
  | zero => intro i; omega
  | succ n ih =>
    intro i a h0 h1 h2
    rw [m_ref33_Meet_L6]
    by_cases hi : i < l.length
    · rw [if_pos (by simpa using hi)]
      simp only [jp1]
      rw [chk_pos ⟨h0, hi⟩, allowed_eq hl hf, Option.bind_some, chk_pos (fun _ => ⟨h0, hi⟩), step64 h0 hi (by omega), drop_cons h0 hi]
      simp only [f6]
      by_cases hc : al l f (nth l i).fHi = true ∧ (nth l i).fHi > a
      · rw [if_pos (by simp; exact hc), if_pos hc, chk_pos ⟨h0, hi⟩, ih (i + 1) _ (by omega) (by omega) (by omega)]
      · rw [if_neg (by simp only [Bool.and_eq_true, Bool.or_eq_true, decide_eq_true_eq]; exact hc), if_neg hc, ih (i + 1) _ (by omega) (by omega) (by omega)]
    · rw [if_neg (by simpa using hi), drop_end hi]; simp [f6]
theorem f5_none {l : List Sapi_Span} {f : Int} : ∀ (m : List Sapi_Span) (p : Int × Int), (∀ s ∈ m, al l f s.fLo = false) → f5 l f p m = p
  | [], p, _ => rfl
  | s :: m, p, h => by
    simp only [f5]
    rw [if_neg (by rw [h s (by simp)]; simp)]
    exact f5_none m p (fun x hx => h x (List.mem_cons_of_mem _ hx))
theorem f5_some {l : List Sapi_Span} {f : Int} : ∀ (m : List Sapi_Span) (p : Int × Int), p.1 ≤ p.2 →
    (f5 l f p m).1 ≤ (f5 l f p m).2 ∧ (f5 l f p m).2 = p.2 ∧ (f5 l f p m).1 ≤ p.1 ∧ (∀ s ∈ m, al l f s.fLo = true → (f5 l f p m).1 ≤ s.fLo) ∧ ((f5 l f p m).1 = p.1 ∨ ∃ s ∈ m, al l f s.fLo = true ∧ (f5 l f p m).1 = s.fLo)
  | [], p, h => ⟨h, rfl, Int.le_refl _, by simp, .inl rfl⟩
  | s :: m, p, h => by
    simp only [f5]
    by_cases hc : al l f s.fLo = true ∧ (p.1 > p.2 ∨ s.fLo < p.1)
    · rw [if_pos hc, if_neg (by omega)]
      obtain ⟨h1, h2, h3, h4, h5⟩ := f5_some (l := l) (f := f) m (s.fLo, p.2) (by simp; omega)
      simp only at h2 h3 h5
      refine ⟨h1, h2, by omega, ?_, ?_⟩
      · intro x hx ha
        rcases List.mem_cons.1 hx with rfl | hx
        · exact h3
        · exact h4 x hx ha
      · rcases h5 with h5 | ⟨x, hx, h5⟩
        · exact .inr ⟨s, by simp, hc.1, h5⟩
        · exact .inr ⟨x, List.mem_cons_of_mem _ hx, h5⟩
    · rw [if_neg hc]
      obtain ⟨h1, h2, h3, h4, h5⟩ := f5_some (l := l) (f := f) m p h
      refine ⟨h1, h2, h3, ?_, ?_⟩
      · intro x hx ha
        rcases List.mem_cons.1 hx with rfl | hx
        · by_cases h' : p.1 > p.2 ∨ x.fLo < p.1
          · exact absurd ⟨ha, h'⟩ hc
          · omega
        · exact h4 x hx ha
      · rcases h5 with h5 | ⟨x, hx, h5⟩
        · exact .inl h5
        · exact .inr ⟨x, List.mem_cons_of_mem _ hx, h5⟩
theorem f5_all {l : List Sapi_Span} {f : Int} : ∀ (m : List Sapi_Span), (∃ s ∈ m, al l f s.fLo = true) →
    let r := f5 l f (1, 0) m
    r.1 ≤ r.2 ∧ (∀ s ∈ m, al l f s.fLo = true → r.1 ≤ s.fLo) ∧ (∃ s ∈ m, al l f s.fLo = true ∧ r.1 = s.fLo) ∧ (∃ s ∈ m, al l f s.fLo = true ∧ r.2 = s.fLo)
  | [], h => by simp at h
  | s :: m, h => by
    simp only [f5]
    by_cases hs : al l f s.fLo = true
    · rw [if_pos ⟨hs, .inl (by omega)⟩, if_pos (by omega)]
      obtain ⟨h1, h2, h3, h4, h5⟩ := f5_some (l := l) (f := f) m (s.fLo, s.fLo) (by simp)
      simp only at h2 h3 h5
      refine ⟨h1, ?_, ?_, ⟨s, by simp, hs, h2⟩⟩
      · intro x hx ha
        rcases List.mem_cons.1 hx with rfl | hx
        · exact h3
        · exact h4 x hx ha
      · rcases h5 with h5 | ⟨x, hx, h5⟩
        · exact ⟨s, by simp, hs, h5⟩
        · exact ⟨x, List.mem_cons_of_mem _ hx, h5⟩
    · rw [if_neg (fun h => hs h.1)]
      obtain ⟨x, hx, hxa⟩ := h
      rcases List.mem_cons.1 hx with rfl | hx
      · exact absurd hxa hs
      obtain ⟨h1, h2, ⟨y, hy, h3⟩, ⟨z, hz, h4⟩⟩ := f5_all (l := l) (f := f) m ⟨x, hx, hxa⟩
      refine ⟨h1, ?_, ⟨y, List.mem_cons_of_mem _ hy, h3⟩, ⟨z, List.mem_cons_of_mem _ hz, h4⟩⟩
      intro w hw ha
      rcases List.mem_cons.1 hw with rfl | hw
      · exact absurd ha hs
      · exact h2 w hw ha
theorem f6_all {l : List Sapi_Span} {f : Int} : ∀ (m : List Sapi_Span) (p : Int), p ≤ f6 l f p m ∧ (∀ s ∈ m, al l f s.fHi = true → s.fHi ≤ f6 l f p m) ∧ (f6 l f p m = p ∨ ∃ s ∈ m, al l f s.fHi = true ∧ f6 l f p m = s.fHi)
  | [], p => ⟨Int.le_refl _, by simp, .inl rfl⟩
  | s :: m, p => by
    simp only [f6]
    by_cases hc : al l f s.fHi = true ∧ s.fHi > p
    · rw [if_pos hc]
      obtain ⟨h1, h2, h3⟩ := f6_all (l := l) (f := f) m s.fHi
      refine ⟨by omega, ?_, ?_⟩
      · intro x hx ha
        rcases List.mem_cons.1 hx with rfl | hx
        · exact h1
        · exact h2 x hx ha
      · rcases h3 with h3 | ⟨x, hx, h3⟩
        · exact .inr ⟨s, by simp, hc.1, h3⟩
        · exact .inr ⟨x, List.mem_cons_of_mem _ hx, h3⟩
    · rw [if_neg hc]
      obtain ⟨h1, h2, h3⟩ := f6_all (l := l) (f := f) m p
      refine ⟨h1, ?_, ?_⟩
      · intro x hx ha
        rcases List.mem_cons.1 hx with rfl | hx
        · by_cases h' : x.fHi > p
          · exact absurd ⟨ha, h'⟩ hc
          · omega
        · exact h2 x hx ha
      · rcases h3 with h3 | ⟨x, hx, h3⟩
        · exact .inl h3
        · exact .inr ⟨x, List.mem_cons_of_mem _ hx, h3⟩
theorem los_mem {l : List Sapi_Span} {f t : Int} : t ∈ los l f ↔ ∃ s ∈ l, s.fLo = t ∧ al l f t = true := by
  unfold los
  rw [List.mem_filter, (isort_perm _).mem_iff, List.mem_map]
  constructor
  · rintro ⟨⟨s, hs, rfl⟩, h⟩; exact ⟨s, hs, rfl, h⟩
  · rintro ⟨s, hs, rfl, h⟩; exact ⟨⟨s, hs, rfl⟩, h⟩
theorem his_mem {l : List Sapi_Span} {f t : Int} : t ∈ his l f ↔ ∃ s ∈ l, s.fHi = t ∧ al l f t = true := by
  unfold his
  rw [List.mem_filter, (isort_perm _).mem_iff, List.mem_map]
  constructor
  · rintro ⟨⟨s, hs, rfl⟩, h⟩; exact ⟨s, hs, rfl, h⟩
  · rintro ⟨s, hs, rfl, h⟩; exact ⟨⟨s, hs, rfl⟩, h⟩
theorem rmeet_eq {l : List Sapi_Span} {f : Int} (hl : (l.length : Int) ≤ 1000000) : m_ref33_Meet l f = some (if meetOk l f = true then (if (los l f).length = 0 then (⟨0, 0⟩, 6) else (⟨nth (los l f) 0, nth (his l f) ((his l f).length - 1)⟩, 0)) else (⟨0, 0⟩, 2)) := by
  unfold m_ref33_Meet meetOk
  rw [rfits_eq, Option.bind_some]
  by_cases hok : okN l.length f
  · have hok' := hok
    have hff : -1000000 ≤ f ∧ f ≤ 1000000 := by omega
    rw [decide_eq_true hok]
    simp only [Bool.not_true, Bool.false_eq_true, if_false, Bool.true_and, jp0]
    rw [rmeet4 hl FUEL 0 (by omega) (by omega) (by rw [FUEL_eq]; omega), Int.toNat_zero, List.drop_zero]
    cases hin : l.all okS
    · rfl
    · simp only [if_true, jp2]
      rw [rmeet5 hl hff FUEL 0 1 0 (by omega) (by omega) (by rw [FUEL_eq]; omega), Int.toNat_zero, List.drop_zero]
      by_cases h0 : (los l f).length = 0
      · rw [if_pos h0]
        have hno : ∀ s ∈ l, al l f s.fLo = false := by
          intro s hs
          cases ha : al l f s.fLo with
          | false => rfl
          | true =>
            have := los_mem.2 ⟨s, hs, rfl, ha⟩
            rw [List.eq_nil_of_length_eq_zero h0] at this; simp at this
        rw [f5_none l _ hno]
        rfl
      · rw [if_neg h0]
        obtain ⟨t, ht⟩ := List.exists_mem_of_length_pos (Nat.pos_of_ne_zero h0)
        obtain ⟨s, hs, rfl, ha⟩ := los_mem.1 ht
        obtain ⟨r1, r2, ⟨s1, hs1, ha1, e1⟩, ⟨s2, hs2, ha2, e2⟩⟩ := f5_all (l := l) (f := f) l ⟨s, hs, ha⟩
        rw [if_neg (by simp; omega)]
        simp only [jp1]
        rw [rmeet6 hl hff FUEL 0 _ (by omega) (by omega) (by rw [FUEL_eq]; omega), Int.toNat_zero, List.drop_zero]
        obtain ⟨q1, q2, q3⟩ := f6_all (l := l) (f := f) l (f5 l f (1, 0) l).2
        have hh := sorted_head (l := l.map (·.fLo)) (p := al l f) (show 0 < ((isort (l.map (·.fLo))).filter (al l f)).length from Nat.pos_of_ne_zero h0)
        obtain ⟨s3, hs3, hle, ha3⟩ := allowed_hi (by omega) (show al l f s2.fLo = true from ha2)
        have h2 : 0 < ((isort (l.map (·.fHi))).filter (al l f)).length := List.length_pos_of_mem (a := s3.fHi) (his_mem.2 ⟨s3, hs3, rfl, ha3⟩)
        have ht := sorted_last h2
        change nth (los l f) 0 ∈ _ ∧ al l f (nth (los l f) 0) = true ∧ (∀ y ∈ _, al l f y = true → nth (los l f) 0 ≤ y) at hh
        change nth (his l f) ((his l f).length - 1) ∈ _ ∧ al l f (nth (his l f) ((his l f).length - 1)) = true ∧ (∀ y ∈ _, al l f y = true → y ≤ nth (his l f) ((his l f).length - 1)) at ht
        obtain ⟨g1, g2, g3⟩ := hh
        obtain ⟨t1, t2, t3⟩ := ht
        have E1 : (f5 l f (1, 0) l).1 = nth (los l f) 0 := by
          obtain ⟨x, hx, hxe⟩ := List.mem_map.1 g1
          have := r2 x hx (by rw [hxe]; exact g2)
          have := g3 s1.fLo (List.mem_map.2 ⟨s1, hs1, rfl⟩) ha1
          omega
        have E2 : f6 l f (f5 l f (1, 0) l).2 l = nth (his l f) ((his l f).length - 1) := by
          obtain ⟨x, hx, hxe⟩ := List.mem_map.1 t1
          have u1 := q2 x hx (by rw [hxe]; exact t2)
          have u3 := t3 s3.fHi (List.mem_map.2 ⟨s3, hs3, rfl⟩) ha3
          rcases q3 with q3 | ⟨y, hy, hya, q3⟩
          · omega
          · have := t3 y.fHi (List.mem_map.2 ⟨y, hy, rfl⟩) hya
            omega
        rw [E1, E2]
  · rw [decide_eq_false hok]; rfl
theorem clockTells_true {l : List Int} {spans : List Sapi_Span} {f w : Int} : m_law33_ClockTells l spans f w = some true := by
  unfold m_law33_ClockTells
  by_cases hb : (l.length : Int) > 40 ∨ (spans.length : Int) > 40
  · rw [if_pos (by simp; omega), awake_true]; rfl
  · rw [if_neg (by simp; omega), midpoint_eq (by omega), Option.bind_some, rmidpoint_eq (by omega), Option.bind_some, suspects_eq (by omega), Option.bind_some, rsuspects_eq (by omega), Option.bind_some, meet_eq (by omega), Option.bind_some, rmeet_eq (by omega), Option.bind_some]
    simp only [decide_true, Bool.true_and, Bool.and_true, if_true]
    rw [ints_eq (by
      have := susF_len (mid l f) w 0 l
      split
      · simp only; omega
      · simp)]
    simp only [decide_true, Option.bind_some, if_true, awake_true]
end Go.Proofs.Ytkhiiafgikioiaa
