/- A part of this claim's proof: models of the functions that the law reaches, with the proof that the functions compute them; plain laws about the models. No conditions beyond those in each theorem's statement. -/
import Derived.Test.YtkhiiafgikioiaaP2
set_option linter.all false
namespace Go.Proofs.Ytkhiiafgikioiaa
open Go Go.RowKit Sep
def susF (m w : Int) : Int → List Int → List Int
  | _, [] => []
  | i, x :: xs => if x - m > w ∨ m - x > w then i :: susF m w (i + 1) xs else susF m w (i + 1) xs
theorem susF_len (m w : Int) : ∀ (i : Int) (l : List Int), (susF m w i l).length ≤ l.length
  | _, [] => by simp [susF]
  | i, x :: xs => by have := susF_len m w (i + 1) xs; simp only [susF]; split <;> simp <;> omega
theorem sus_loop {l : List Int} {e : Int} {m w : Int} {k : List Int → Option (List Int × Int)} (hl : (l.length : Int) ≤ 1000000) (hm : -1073741824 ≤ m ∧ m ≤ 1073741824) (hx : ∀ x ∈ l, inT x = true) :
    ∀ (n : Nat) (out : List Int) (i : Int), 0 ≤ i → i ≤ l.length → l.length - i < n → (out.length : Int) ≤ i →
      m_clock_Suspects_L2 l (m, e) w k n out i = k (out ++ susF m w i (l.drop i.toNat)) := by
  intro n
  induction n with
  | zero => intro out i; omega
  | succ n ih =>
    intro out i h0 h1 h2 h3
    rw [m_clock_Suspects_L2]
    by_cases hi : i < l.length
    · have hb := hx _ (nth_mem h0 hi)
      simp only [inT, decide_eq_true_eq] at hb
      rw [if_pos (by simpa using hi)]
      simp only [jp1]
      rw [chk_pos ⟨h0, hi⟩, i64_id (x := nth l i - m) (by omega), i64_id (x := m - nth l i) (by omega), drop_cons h0 hi, step64 h0 hi (by omega)]
      simp only [susF]
      by_cases hc : nth l i - m > w ∨ m - nth l i > w
      · rw [if_pos (by simp; omega), if_pos hc, chk_pos (by simp; omega), ih _ (i + 1) (by omega) (by omega) (by omega) (by simp; omega)]
        simp
      · rw [if_neg (by simp; omega), if_neg hc, ih _ (i + 1) (by omega) (by omega) (by omega) (by omega)]
    · rw [if_neg (by simpa using hi), drop_end hi]; simp [susF]
theorem rsus_loop {l : List Int} {e : Int} {m w : Int} {k : List Int → Option (List Int × Int)} (hl : (l.length : Int) ≤ 1000000) (hm : -1073741824 ≤ m ∧ m ≤ 1073741824) (hx : ∀ x ∈ l, inT x = true) :
    ∀ (n : Nat) (out : List Int) (i : Int), 0 ≤ i → i ≤ l.length → l.length - i < n → (out.length : Int) ≤ i →
      m_ref33_Suspects_L2 l (m, e) w k n out i = k (out ++ susF m w i (l.drop i.toNat)) := by
  intro n
  induction n with
  | zero => intro out i; omega
  | succ n ih =>
    intro out i h0 h1 h2 h3
    rw [m_ref33_Suspects_L2]
    by_cases hi : i < l.length
    · have hb := hx _ (nth_mem h0 hi)
      simp only [inT, decide_eq_true_eq] at hb
      rw [if_pos (by simpa using hi)]
      simp only [jp1]
      rw [chk_pos ⟨h0, hi⟩, chk_pos (fun _ => ⟨h0, hi⟩), i64_id (x := nth l i - m) (by omega), i64_id (x := m - nth l i) (by omega), drop_cons h0 hi, step64 h0 hi (by omega)]
      simp only [susF]
      by_cases hc : nth l i - m > w ∨ m - nth l i > w
      · rw [if_pos (by simp; omega), if_pos hc, chk_pos (by simp; omega), ih _ (i + 1) (by omega) (by omega) (by omega) (by simp; omega)]
        simp
      · rw [if_neg (by simp; omega), if_neg hc, ih _ (i + 1) (by omega) (by omega) (by omega) (by omega)]
    · rw [if_neg (by simpa using hi), drop_end hi]; simp [susF]
theorem mid_bd {l : List Int} {f : Int} (h : midOk l f = true) : -1073741824 ≤ mid l f ∧ mid l f ≤ 1073741824 := by
  unfold midOk at h
  rw [Bool.and_eq_true, decide_eq_true_eq] at h
  have h1 := stat_mem (l := l) (k := f) (by omega) (by omega)
  have h2 := stat_mem (l := l) (k := l.length - 1 - f) (by omega) (by omega)
  have ha := List.all_eq_true.1 h.2
  have b1 := ha _ h1
  have b2 := ha _ h2
  simp only [inT, decide_eq_true_eq] at b1 b2
  unfold mid; omega
theorem suspects_eq {l : List Int} {f w : Int} (hl : (l.length : Int) ≤ 1000000) : m_clock_Suspects l f w = some (if midOk l f = true ∧ 0 ≤ w then (susF (mid l f) w 0 l, 0) else ([], 2)) := by
  unfold m_clock_Suspects
  rw [midpoint_eq hl, Option.bind_some]
  by_cases hok : midOk l f = true
  · rw [if_pos hok]
    by_cases hw : 0 ≤ w
    · rw [if_neg (by simp; omega), if_pos ⟨hok, hw⟩]
      simp only [jp1]
      have ha := hok
      unfold midOk at ha
      rw [Bool.and_eq_true, List.all_eq_true] at ha
      rw [sus_loop hl (mid_bd hok) ha.2 FUEL [] 0 (by omega) (by omega) (by rw [FUEL_eq]; omega) (by simp)]
      simp
    · rw [if_pos (by simp; omega), if_neg (by omega)]
  · rw [if_neg hok, if_pos (by simp), if_neg (fun h => hok h.1)]
theorem rsuspects_eq {l : List Int} {f w : Int} (hl : (l.length : Int) ≤ 1000000) : m_ref33_Suspects l f w = some (if midOk l f = true ∧ 0 ≤ w then (susF (mid l f) w 0 l, 0) else ([], 2)) := by
  unfold m_ref33_Suspects
  rw [rmidpoint_eq hl, Option.bind_some]
  by_cases hok : midOk l f = true
  · rw [if_pos hok]
    by_cases hw : 0 ≤ w
    · rw [if_neg (by simp; omega), if_pos ⟨hok, hw⟩]
      simp only [jp1]
      have ha := hok
      unfold midOk at ha
      rw [Bool.and_eq_true, List.all_eq_true] at ha
      rw [rsus_loop hl (mid_bd hok) ha.2 FUEL [] 0 (by omega) (by omega) (by rw [FUEL_eq]; omega) (by simp)]
      simp
    · rw [if_pos (by simp; omega), if_neg (by omega)]
  · rw [if_neg hok, if_pos (by simp), if_neg (fun h => hok h.1)]
theorem ints_loop {a b : List Int} {k : Option Bool} (hab : a.length = b.length) (hl : (a.length : Int) ≤ 1000000) :
    ∀ (n : Nat) (i : Int), 0 ≤ i → i ≤ a.length → a.length - i < n → m_law33_Ints_L2 a b k n i = if a.drop i.toNat = b.drop i.toNat then k else some false := by
  intro n
  induction n with
  | zero => intro i; omega
  | succ n ih =>
    intro i h0 h1 h2
    rw [m_law33_Ints_L2]
    by_cases hi : i < a.length
    · rw [if_pos (by simpa using hi), chk_pos ⟨h0, hi⟩, chk_pos ⟨h0, by omega⟩, drop_cons h0 hi, drop_cons (l := b) h0 (by omega)]
      by_cases he : nth a i = nth b i
      · rw [if_neg (by simpa using he), step64 h0 hi (by omega), ih (i + 1) (by omega) (by omega) (by omega)]
        simp [he]
      · rw [if_pos (by simpa using he), if_neg (by simp [he])]
    · rw [if_neg (by simpa using hi), drop_end hi, drop_end (l := b) (by omega)]; simp
theorem ints_eq {a b : List Int} (hl : (a.length : Int) ≤ 1000000) : m_law33_Ints a b = some (decide (a = b)) := by
  unfold m_law33_Ints
  by_cases hab : a.length = b.length
  · rw [if_neg (by simp; omega)]
    simp only [jp0]
    rw [ints_loop hab hl FUEL 0 (by omega) (by omega) (by rw [FUEL_eq]; omega)]
    by_cases h : a = b <;> simp [h]
  · rw [if_pos (by simp; omega)]
    rw [decide_eq_false]
    rintro rfl; exact hab rfl
/-! ### Meet -/
def has (t : Int) (s : Sapi_Span) : Bool := decide (s.fLo ≤ t ∧ t ≤ s.fHi)
def al (l : List Sapi_Span) (f t : Int) : Bool := decide ((l.length : Int) - f ≤ l.countP (has t))
theorem meet2_loop {c : List Sapi_Span} {t : Int} {k : Int → Option Bool} (hl : (c.length : Int) ≤ 1000000) :
    ∀ (n : Nat) (m i : Int), 0 ≤ i → i ≤ c.length → c.length - i < n → 0 ≤ m → m ≤ i → m_clock_Meet_2_L2 c t k n m i = k (m + (c.drop i.toNat).countP (has t)) := by
  intro n
  induction n with
  | zero => intro m i; omega
  | succ n ih =>
    intro m i h0 h1 h2 h3 h4
    rw [m_clock_Meet_2_L2]
    by_cases hi : i < c.length
    · rw [if_pos (by simpa using hi)]
      simp only [jp1]
      rw [chk_pos ⟨h0, hi⟩, step64 h0 hi (by omega), i64_id (x := m + 1) (by omega), drop_cons h0 hi, List.countP_cons]
      by_cases hc : has t (nth c i) = true
      · have hc' := hc
        simp only [has, decide_eq_true_eq] at hc'
        rw [if_pos (by simpa using hc'), if_pos hc, ih (m + 1) (i + 1) (by omega) (by omega) (by omega) (by omega) (by omega)]
        congr 1; omega
      · have hc' := hc
        simp only [has, decide_eq_true_eq] at hc'
        rw [if_neg (by simpa using hc'), if_neg hc, ih m (i + 1) (by omega) (by omega) (by omega) (by omega) (by omega)]
        congr 1
    · rw [if_neg (by simpa using hi), drop_end hi]; simp
theorem meet2_eq {c : List Sapi_Span} {t f : Int} (hl : (c.length : Int) ≤ 1000000) (hf : -1000000 ≤ f ∧ f ≤ 1000000) : m_clock_Meet_2 t c f = some (al c f t) := by
  unfold m_clock_Meet_2 al
  simp only [jp1]
  rw [meet2_loop hl FUEL 0 0 (by omega) (by omega) (by rw [FUEL_eq]; omega) (by omega) (by omega), i64_id (by omega)]
  simp
theorem allowed_loop {c : List Sapi_Span} {t : Int} {k : Int → Option Bool} (hl : (c.length : Int) ≤ 1000000) :
    ∀ (n : Nat) (m i : Int), 0 ≤ i → i ≤ c.length → c.length - i < n → 0 ≤ m → m ≤ i → m_ref33_Allowed_L2 c t k n m i = k (m + (c.drop i.toNat).countP (has t)) := by
  intro n
  induction n with
  | zero => intro m i; omega
  | succ n ih =>
    intro m i h0 h1 h2 h3 h4
    rw [m_ref33_Allowed_L2]
    by_cases hi : i < c.length
    · rw [if_pos (by simpa using hi)]
      simp only [jp1]
      rw [chk_pos ⟨h0, hi⟩, chk_pos (fun _ => ⟨h0, hi⟩), step64 h0 hi (by omega), i64_id (x := m + 1) (by omega), drop_cons h0 hi, List.countP_cons]
      by_cases hc : has t (nth c i) = true
      · have hc' := hc
        simp only [has, decide_eq_true_eq] at hc'
        rw [if_pos (by simpa using hc'), if_pos hc, ih (m + 1) (i + 1) (by omega) (by omega) (by omega) (by omega) (by omega)]
        congr 1; omega
      · have hc' := hc
        simp only [has, decide_eq_true_eq] at hc'
        rw [if_neg (by simpa using hc'), if_neg hc, ih m (i + 1) (by omega) (by omega) (by omega) (by omega) (by omega)]
        congr 1
    · rw [if_neg (by simpa using hi), drop_end hi]; simp
theorem allowed_eq {c : List Sapi_Span} {t f : Int} (hl : (c.length : Int) ≤ 1000000) (hf : -1000000 ≤ f ∧ f ≤ 1000000) : m_ref33_Allowed c f t = some (al c f t) := by
  unfold m_ref33_Allowed al
  simp only [jp1]
  rw [allowed_loop hl FUEL 0 0 (by omega) (by omega) (by rw [FUEL_eq]; omega) (by omega) (by omega)]
  have := List.countP_le_length (p := has t) (l := c)
  rw [i64_id (by simp; omega)]
  congr 1
  rw [Bool.eq_iff_iff]; simp; omega
/-- a span that is as described -/
def okS (s : Sapi_Span) : Bool := inT s.fLo && inT s.fHi && decide (s.fLo ≤ s.fHi)
def meetOk (l : List Sapi_Span) (f : Int) : Bool := decide (okN l.length f) && l.all okS
theorem meet1_eq (s : Sapi_Span) : m_clock_Meet_1 s = some (!okS s) := by
  unfold m_clock_Meet_1 okS
  simp only [in_eq, Option.bind_some]
  cases inT s.fLo <;> cases inT s.fHi <;> simp
  rw [← decide_not]; congr 1; simp
/-- the ends of the result, as lists -/
def los (l : List Sapi_Span) (f : Int) : List Int := (isort (l.map (·.fLo))).filter (al l f)
def his (l : List Sapi_Span) (f : Int) : List Int := (isort (l.map (·.fHi))).filter (al l f)
theorem sorted_head {l : List Int} {p : Int → Bool} (h : 0 < ((isort l).filter p).length) : nth ((isort l).filter p) 0 ∈ l ∧ p (nth ((isort l).filter p) 0) = true ∧ ∀ y ∈ l, p y = true → nth ((isort l).filter p) 0 ≤ y := by
  have hm := nth_mem (l := (isort l).filter p) (i := 0) (by omega) (by omega)
  have hs : ((isort l).filter p).Pairwise (· ≤ ·) := (isort_sorted l).filter _
  obtain ⟨h1, h2⟩ := List.mem_filter.1 hm
  refine ⟨(isort_perm l).mem_iff.1 h1, h2, fun y hy hp => ?_⟩
  have hy' : y ∈ (isort l).filter p := List.mem_filter.2 ⟨(isort_perm l).mem_iff.2 hy, hp⟩
  obtain ⟨i, hi, rfl⟩ := List.getElem_of_mem hy'
  rw [← nth_lt (by omega) (by omega)]
  rcases Nat.eq_zero_or_pos i with rfl | h0
  · exact Int.le_refl _
  · exact List.pairwise_iff_getElem.1 hs 0 i (by omega) hi h0
theorem sorted_last {l : List Int} {p : Int → Bool} (h : 0 < ((isort l).filter p).length) : let m := nth ((isort l).filter p) (((isort l).filter p).length - 1); m ∈ l ∧ p m = true ∧ ∀ y ∈ l, p y = true → y ≤ m := by
  have hm := nth_mem (l := (isort l).filter p) (i := ((isort l).filter p).length - 1) (by omega) (by omega)
  have hs : ((isort l).filter p).Pairwise (· ≤ ·) := (isort_sorted l).filter _
  obtain ⟨h1, h2⟩ := List.mem_filter.1 hm
  refine ⟨(isort_perm l).mem_iff.1 h1, h2, fun y hy hp => ?_⟩
  have hy' : y ∈ (isort l).filter p := List.mem_filter.2 ⟨(isort_perm l).mem_iff.2 hy, hp⟩
  obtain ⟨i, hi, rfl⟩ := List.getElem_of_mem hy'
  rw [← nth_lt (i := (((isort l).filter p).length : Int) - 1) (by omega) (by omega)]
  rcases Nat.lt_or_ge i (((isort l).filter p).length - 1) with h0 | h0
  · have := List.pairwise_iff_getElem.1 hs i (((isort l).filter p).length - 1) hi (by omega) h0
    simpa [show ((((isort l).filter p).length : Int) - 1).toNat = ((isort l).filter p).length - 1 from by omega] using this
  · have : i = ((((isort l).filter p).length : Int) - 1).toNat := by omega
    subst this; exact Int.le_refl _
theorem exists_min : ∀ (l : List Sapi_Span), l ≠ [] → ∃ s ∈ l, ∀ x ∈ l, s.fHi ≤ x.fHi
  | [], h => absurd rfl h
  | [x], _ => ⟨x, by simp, by simp⟩
  | x :: y :: l, _ => by
    obtain ⟨s, hs, hm⟩ := exists_min (y :: l) (by simp)
    rcases Int.le_total x.fHi s.fHi with h | h
    · refine ⟨x, by simp, fun z hz => ?_⟩
      rcases List.mem_cons.1 hz with rfl | hz
      · exact Int.le_refl _
      · exact Int.le_trans h (hm z hz)
    · refine ⟨s, List.mem_cons_of_mem _ hs, fun z hz => ?_⟩
      rcases List.mem_cons.1 hz with rfl | hz
      · exact h
      · exact hm z hz
/-- behind an allowed time there is an allowed end -/
theorem allowed_hi {l : List Sapi_Span} {f t : Int} (hf : f < l.length) (h : al l f t = true) : ∃ s ∈ l, t ≤ s.fHi ∧ al l f s.fHi = true := by
  simp only [al, decide_eq_true_eq] at h
  have hne : l.filter (has t) ≠ [] := by
    intro e
    rw [List.countP_eq_length_filter, e] at h
    simp at h; omega
  obtain ⟨s, hs, hm⟩ := exists_min _ hne
  obtain ⟨h1, h2⟩ := List.mem_filter.1 hs
  simp only [has, decide_eq_true_eq] at h2
  refine ⟨s, h1, h2.2, ?_⟩
  simp only [al, decide_eq_true_eq]
  have : l.countP (has t) ≤ l.countP (has s.fHi) := List.countP_mono_left fun x hx hp => by
    have h3 := hm x (List.mem_filter.2 ⟨hx, hp⟩)
    simp only [has, decide_eq_true_eq] at hp ⊢
    omega
  omega
theorem meet_eq {l : List Sapi_Span} {f : Int} (hl : (l.length : Int) ≤ 1000000) : m_clock_Meet l f = some (if meetOk l f = true then (if (los l f).length = 0 then (⟨0, 0⟩, 6) else (⟨nth (los l f) 0, nth (his l f) ((his l f).length - 1)⟩, 0)) else (⟨0, 0⟩, 2)) := by
  unfold m_clock_Meet meetOk
  rw [fits_eq (by omega) (by omega), Option.bind_some]
  rw [any_span (p := fun s => !okS s) (fun x _ => meet1_eq x) (by omega)]
  by_cases hok : okN l.length f
  · have hok' := hok
    rw [decide_eq_true hok]
    simp only [Bool.not_true, Bool.false_eq_true, if_false, Option.bind_some, Bool.true_and]
    have han : l.any (fun s => !okS s) = !l.all okS := by rw [List.all_eq_not_any_not]; simp
    rw [han]
    cases hin : l.all okS
    · simp
    · simp only [Bool.not_true, Bool.false_eq_true, if_false, if_true]
      have hn := hok'.1
      rw [each_span (f := fun y0 => m_clock_Meet_3 y0) (g := (·.fLo)) (fun _ _ => rfl) (by omega) hl, Option.bind_some]
      rw [del_int (p := fun t => !al l f t) (fun t _ => by unfold m_clock_Meet_4; simp only [meet2_eq hl (show -1000000 ≤ f ∧ f ≤ 1000000 by omega), Option.bind_some]) (by rw [isort_length]; simp; omega), Option.bind_some]
      rw [each_span (f := fun y0 => m_clock_Meet_5 y0) (g := (·.fHi)) (fun _ _ => rfl) (by omega) hl, Option.bind_some]
      rw [del_int (p := fun t => !al l f t) (fun t _ => by unfold m_clock_Meet_6; simp only [meet2_eq hl (show -1000000 ≤ f ∧ f ≤ 1000000 by omega), Option.bind_some]) (by rw [isort_length]; simp; omega), Option.bind_some]
      simp only [Bool.not_not]
      change (if decide ((((los l f).length : Nat) : Int) = 0) = true then _ else chk ((0 : Int) ≤ 0 ∧ 0 < (((los l f).length : Nat) : Int)) (chk (0 ≤ i64 ((((his l f).length : Nat) : Int) - 1) ∧ i64 ((((his l f).length : Nat) : Int) - 1) < (((his l f).length : Nat) : Int)) (some ((⟨nth (los l f) 0, nth (his l f) (i64 ((((his l f).length : Nat) : Int) - 1))⟩ : Sapi_Span), (0 : Int))))) = _
      by_cases h0 : (los l f).length = 0
      · rw [if_pos (by simp [h0]), if_pos h0]
      · have h1 := sorted_head (l := l.map (·.fLo)) (p := al l f) (show 0 < ((isort (l.map (·.fLo))).filter (al l f)).length from Nat.pos_of_ne_zero h0)
        obtain ⟨s, hs, _, ha⟩ := allowed_hi (by omega) h1.2.1
        have h2 : 0 < (his l f).length := List.length_pos_of_mem (a := s.fHi) (List.mem_filter.2 ⟨(isort_perm _).mem_iff.2 (List.mem_map.2 ⟨s, hs, rfl⟩), ha⟩)
        have h3 : (his l f).length ≤ l.length := by
          have := List.length_filter_le (al l f) (isort (l.map (·.fHi)))
          rw [isort_length, List.length_map] at this; exact this
        rw [if_neg (by rw [decide_eq_true_eq]; omega), if_neg h0, i64_id (by omega), chk_pos (show (0 : Int) ≤ 0 ∧ 0 < (((los l f).length : Nat) : Int) by omega), chk_pos ⟨by omega, by omega⟩]
  · rw [decide_eq_false hok]; rfl
end Go.Proofs.Ytkhiiafgikioiaa
