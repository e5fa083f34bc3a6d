/- A part of this claim's proof: models of the functions that the law reaches, with the proof that the functions compute them; plain laws about the models. No conditions beyond those in each theorem's statement. -/
import Derived.Test.YtbejngeaocfieaaW34d
import Derived.Test.YtbejngeaocfieaaZLoops
set_option linter.all false
namespace Go.Proofs.Ytbejngeaocfieaa
open Go Go.RowKit Sep
def inT (t : Int) : Bool := decide (-1073741824 ≤ t ∧ t ≤ 1073741824)
abbrev okN (n f : Int) : Prop := 1 ≤ n ∧ n ≤ 16 ∧ 0 ≤ f ∧ 2 * f + 1 ≤ n
theorem in_eq (t : Int) : m_clock_in t = some (inT t) := by
  unfold m_clock_in inT; congr 1; rw [Bool.eq_iff_iff]; simp
theorem rin_eq (t : Int) : m_ref33_In t = some (inT t) := by
  unfold m_ref33_In inT; congr 1; rw [Bool.eq_iff_iff]; simp
theorem fits_eq {n f : Int} (h0 : 0 ≤ n) (hn : n ≤ 9223372036854775807) : m_clock_fits n f = some (decide (okN n f)) := by
  unfold m_clock_fits
  congr 1
  rw [Bool.eq_iff_iff]
  simp only [Bool.and_eq_true, decide_eq_true_eq]
  by_cases h1 : 1 ≤ n
  · have hd := Int.ediv_nonneg (a := n - 1) (b := 2) (by omega) (by omega)
    rw [i64_id (x := n - 1) (by omega), tdivp (by omega), i64_id (by omega)]
    omega
  · omega
theorem rfits_eq {n f : Int} : m_ref33_Fits n f = some (decide (okN n f)) := by
  unfold m_ref33_Fits
  congr 1
  rw [Bool.eq_iff_iff]
  simp only [Bool.and_eq_true, decide_eq_true_eq]
  by_cases h1 : 0 ≤ f ∧ f ≤ 16
  · rw [i64_id (x := 2 * f) (by omega), i64_id (by omega)]; omega
  · omega
theorem each_int {l : List Int} {f : Int → Option Int} {g : Int → Int} (hf : ∀ x ∈ l, f x = some (g x)) (h0 : 0 < l.length) (hs : (l.length : Int) ≤ 1000000) : m_clock_each_int l f = some (isort (l.map g)) := by
  unfold m_clock_each_int
  simp only [jp1]
  rw [each_loop (by_ := 8) (L := m_clock_each_int_L2 l f _) (fun _ _ _ => rfl) hf (by omega) (by omega) FUEL [] 0 (by omega) (by omega) (by rw [FUEL_eq]; omega) rfl]
  simp only [Int.toNat_zero, List.drop_zero, List.nil_append, m_slices_Sort]
  rw [chk_pos (by simp; omega), Option.bind_some]
theorem idx_int {s : List Int} {f : Int → Option Bool} {p : Int → Bool} (hf : ∀ x ∈ s, f x = some (p x)) (hs : (s.length : Int) ≤ 4611686018427387000) :
    m_slices_IndexFunc_int_int s f = some (match s.findIdx? p with | some j => (j : Int) | none => -1) := index_func (L := m_slices_IndexFunc_int_int_L2 s f) (fun _ _ _ => rfl) hf hs
theorem any_int {s : List Int} {f : Int → Option Bool} {p : Int → Bool} (hf : ∀ x ∈ s, f x = some (p x)) (hs : (s.length : Int) ≤ 4611686018427387000) : m_slices_ContainsFunc_int_int s f = some (s.any p) := contains_func (idx_int hf hs)
/-- the midpoint, as it is said -/
def mid (l : List Int) (f : Int) : Int := (stat l f + stat l (l.length - 1 - f)) / 2
def midOk (l : List Int) (f : Int) : Bool := decide (okN l.length f) && l.all inT
theorem midpoint_eq {l : List Int} {f : Int} (hl : (l.length : Int) ≤ 1000000) : m_clock_Midpoint l f = some (if midOk l f = true then (mid l f, 0) else (0, 2)) := by
  unfold m_clock_Midpoint midOk
  rw [fits_eq (by omega) (by omega), Option.bind_some]
  rw [any_int (p := fun t => !inT t) (fun x _ => by unfold m_clock_Midpoint_1; rw [in_eq]; rfl) (by omega)]
  by_cases hok : okN l.length f
  · have hok' := hok
    rw [decide_eq_true hok]
    simp only [Bool.not_true, Bool.false_eq_true, if_false, Option.bind_some, Bool.true_and]
    have han : l.any (fun t => !inT t) = !l.all inT := by rw [List.all_eq_not_any_not]; simp
    rw [han]
    cases hin : l.all inT
    · simp
    · simp only [Bool.not_true, Bool.false_eq_true, if_false, if_true]
      rw [each_int (f := fun y0 => m_clock_Midpoint_2 y0) (g := fun t => t) (fun _ _ => rfl) (by have := hok'.1; omega) hl, Option.bind_some, List.map_id']
      rw [isort_length, i64_id (x := (l.length : Int) - 1) (by omega), i64_id (x := (l.length : Int) - 1 - f) (by omega)]
      rw [chk_pos ⟨by omega, by omega⟩, chk_pos ⟨by omega, by omega⟩]
      have h1 := stat_mem (l := l) (k := f) (by omega) (by omega)
      have h2 := stat_mem (l := l) (k := l.length - 1 - f) (by omega) (by omega)
      have ha := List.all_eq_true.1 hin
      have b1 := ha _ h1
      have b2 := ha _ h2
      simp only [inT, decide_eq_true_eq] at b1 b2
      unfold stat at b1 b2
      rw [i64_id (by omega)]
      rfl
  · rw [decide_eq_false hok]; rfl
/-- smaller ones, and equal ones ahead of i, from place j on -/
def cntF (v i : Int) : Int → List Int → Int
  | _, [] => 0
  | j, x :: xs => (if x < v ∨ (x = v ∧ j < i) then 1 else 0) + cntF v i (j + 1) xs
theorem cntF_bd (v i : Int) : ∀ (j : Int) (l : List Int), 0 ≤ cntF v i j l ∧ cntF v i j l ≤ l.length
  | _, [] => by simp [cntF]
  | j, x :: xs => by have := cntF_bd v i (j + 1) xs; simp only [cntF, List.length_cons]; split <;> omega
theorem cntF_eq (v i : Int) : ∀ (l : List Int) (j : Int), cntF v i j l = l.countP (fun x => decide (x < v)) + (l.take (i - j).toNat).countP (fun x => decide (x = v))
  | [], j => by simp [cntF]
  | x :: xs, j => by
    have ih := cntF_eq v i xs (j + 1)
    simp only [cntF, ih, List.countP_cons]
    by_cases hj : j < i
    · rw [show (i - j).toNat = (i - (j + 1)).toNat + 1 from by omega, List.take_succ_cons, List.countP_cons]
      by_cases h1 : x < v
      · rw [if_pos (.inl h1), if_pos (by simpa using h1), if_neg (by simp; omega)]; omega
      · by_cases h2 : x = v
        · rw [if_pos (.inr ⟨h2, hj⟩), if_neg (by simpa using h1), if_pos (by simpa using h2)]; omega
        · rw [if_neg (by omega), if_neg (by simpa using h1), if_neg (by simpa using h2)]; omega
    · rw [show (i - j).toNat = 0 from by omega, show (i - (j + 1)).toNat = 0 from by omega]
      simp only [List.take_zero, List.countP_nil]
      by_cases h1 : x < v
      · rw [if_pos (.inl h1), if_pos (by simpa using h1)]; omega
      · rw [if_neg (by omega), if_neg (by simpa using h1)]; omega
theorem rank_inner {l : List Int} {i : Int} {k : Int → Option Int} (hi : 0 ≤ i ∧ i < l.length) (hl : (l.length : Int) ≤ 1000000) :
    ∀ (n : Nat) (c j : Int), 0 ≤ j → j ≤ l.length → l.length - j < n → 0 ≤ c → c ≤ j → m_ref33_rank_L4 l i k n c j = k (c + cntF (nth l i) i j (l.drop j.toNat)) := by
  intro n
  induction n with
  | zero => intro c j; omega
  | succ n ih =>
    intro c j h0 h1 h2 h3 h4
    rw [m_ref33_rank_L4]
    by_cases hj : j < l.length
    · rw [if_pos (by simpa using hj)]
      simp only [jp1]
      rw [chk_pos ⟨h0, hj⟩, chk_pos hi, chk_pos (fun _ => ⟨h0, hj⟩), chk_pos (fun _ => hi), step64 h0 hj (by omega), i64_id (x := c + 1) (by omega), drop_cons h0 hj]
      simp only [cntF]
      by_cases hc : nth l j < nth l i ∨ (nth l j = nth l i ∧ j < i)
      · rw [if_pos (by simpa using hc), if_pos hc, ih (c + 1) (j + 1) (by omega) (by omega) (by omega) (by omega) (by omega), Int.add_assoc]
      · rw [if_neg (by simpa using hc), if_neg hc, ih c (j + 1) (by omega) (by omega) (by omega) (by omega) (by omega), Int.zero_add]
    · rw [if_neg (by simpa using hj), drop_end hj]; simp [cntF]
def rk (l : List Int) (i : Int) : Int := l.countP (fun x => decide (x < nth l i)) + (l.take i.toNat).countP (fun x => decide (x = nth l i))
theorem rank_outer {l : List Int} {q : Int} {k : Option Int} (hl : (l.length : Int) ≤ 1000000) (v : Int) (hv : ∀ i : Int, 0 ≤ i → i < l.length → rk l i = q → nth l i = v) :
    ∀ (n : Nat) (i : Int), 0 ≤ i → i ≤ l.length → l.length - i < n → (∃ i' : Int, i ≤ i' ∧ i' < l.length ∧ rk l i' = q) → m_ref33_rank_L3 l q k n i = some v := by
  intro n
  induction n with
  | zero => intro i; omega
  | succ n ih =>
    rintro i h0 h1 h2 ⟨i', e1, e2, e3⟩
    rw [m_ref33_rank_L3, if_pos (by simp; omega)]
    simp only [jp0, jp1]
    rw [rank_inner ⟨h0, by omega⟩ hl FUEL 0 0 (by omega) (by omega) (by rw [FUEL_eq]; omega) (by omega) (by omega), Int.toNat_zero, List.drop_zero, cntF_eq, Int.zero_add, Int.sub_zero]
    by_cases hq : rk l i = q
    · rw [if_pos (by rw [← hq]; simp [rk]), chk_pos ⟨h0, by omega⟩, hv i h0 (by omega) hq]
    · rw [if_neg (by unfold rk at hq; simpa using hq), step64 h0 (n := l.length) (by omega) (by omega)]
      refine ih (i + 1) (by omega) (by omega) (by omega) ⟨i', ?_, e2, e3⟩
      rcases Int.lt_or_le i i' with h | h
      · omega
      · exact absurd (by rwa [show i = i' from by omega]) hq
theorem nth_occ {v : Int} : ∀ (l : List Int) (m : Nat), m < l.countP (fun x => decide (x = v)) → ∃ i : Nat, i < l.length ∧ l[i]? = some v ∧ (l.take i).countP (fun x => decide (x = v)) = m
  | [], m, h => by simp at h
  | x :: xs, m, h => by
    rw [List.countP_cons] at h
    by_cases hx : x = v
    · cases m with
      | zero => exact ⟨0, by simp, by simp [hx], by simp⟩
      | succ m =>
        rw [if_pos (by simpa using hx)] at h
        obtain ⟨i, h1, h2, h3⟩ := nth_occ (v := v) xs m (by omega)
        exact ⟨i + 1, by simpa using h1, by simpa using h2, by simp [hx, h3]⟩
    · rw [if_neg (by simpa using hx)] at h
      obtain ⟨i, h1, h2, h3⟩ := nth_occ (v := v) xs m (by omega)
      exact ⟨i + 1, by simpa using h1, by simpa using h2, by simp [hx, h3]⟩
theorem count_le {l : List Int} {v : Int} : l.countP (fun x => decide (x ≤ v)) = l.countP (fun x => decide (x < v)) + l.countP (fun x => decide (x = v)) := by
  induction l with
  | nil => rfl
  | cons x l ih =>
    simp only [List.countP_cons, ih]
    by_cases h1 : x < v
    · rw [if_pos (by simp; omega), if_pos (by simpa using h1), if_neg (by simp; omega)]; omega
    · by_cases h2 : x = v
      · rw [if_pos (by simp; omega), if_neg (by simpa using h1), if_pos (by simpa using h2)]; omega
      · rw [if_neg (by simp; omega), if_neg (by simpa using h1), if_neg (by simpa using h2)]; omega
theorem rank_eq {l : List Int} {q : Int} (hl : (l.length : Int) ≤ 1000000) (h0 : 0 ≤ q) (h1 : q < l.length) : m_ref33_rank l q = some (stat l q) := by
  unfold m_ref33_rank
  simp only [jp0]
  have hs := stat_count h0 h1
  refine rank_outer hl (stat l q) (fun i hi0 hi1 hr => ?_) FUEL 0 (by omega) (by omega) (by rw [FUEL_eq]; omega) ?_
  · unfold rk at hr
    refine (stat_unique h0 h1 (by omega) ?_).symm
    rw [count_le]
    have : (l.take i.toNat).countP (fun x => decide (x = nth l i)) < l.countP (fun x => decide (x = nth l i)) := by
      have h' : ∀ v, v = nth l i → (l.take i.toNat).countP (fun x => decide (x = v)) < l.countP (fun x => decide (x = v)) := by
        intro v hv
        have e := congrArg (List.countP (fun x => decide (x = v))) (List.take_append_drop i.toNat l)
        rw [List.countP_append, drop_cons hi0 hi1, List.countP_cons, if_pos (by simp [hv])] at e
        omega
      exact h' _ rfl
    omega
  · rw [count_le] at hs
    obtain ⟨i, e1, e2, e3⟩ := nth_occ (v := stat l q) l (q.toNat - l.countP (fun x => decide (x < stat l q))) (by omega)
    have hn : nth l (i : Int) = stat l q := by
      rw [← nth_lt (by omega) (by omega)]
      simpa [List.getElem?_eq_getElem e1] using e2
    refine ⟨i, by omega, by omega, ?_⟩
    unfold rk
    rw [hn, Int.toNat_natCast, e3]; omega
theorem rmid_loop {l : List Int} {k : Option (Int × Int)} (hl : (l.length : Int) ≤ 1000000) :
    ∀ (n : Nat) (i : Int), 0 ≤ i → i ≤ l.length → l.length - i < n → m_ref33_Midpoint_L2 l k n i = if (l.drop i.toNat).all inT = true then k else some (0, 2) := by
  intro n
  induction n with
  | zero => intro i; omega
  | succ n ih =>
    intro i h0 h1 h2
    rw [m_ref33_Midpoint_L2]
    by_cases hi : i < l.length
    · rw [if_pos (by simpa using hi), chk_pos ⟨h0, hi⟩, rin_eq, Option.bind_some, drop_cons h0 hi, List.all_cons]
      cases inT (nth l i)
      · simp
      · simp only [Bool.not_true, Bool.false_eq_true, if_false, Bool.true_and]
        rw [step64 h0 hi (by omega), ih (i + 1) (by omega) (by omega) (by omega)]
    · rw [if_neg (by simpa using hi), drop_end hi]; simp
theorem half_eq (s : Int) (h : -2147483648 ≤ s ∧ s ≤ 2147483648) {R : Type} (k : Int → Option R) :
    (if (decide (s < 0)) && (decide ((Int.tmod s 2) ≠ 0)) then k (i64 ((i64 (Int.tdiv s 2)) - 1)) else k (i64 (Int.tdiv s 2))) = k (s / 2) := by
  by_cases h0 : 0 ≤ s
  · rw [if_neg (by simp; omega), tdivp h0, i64_id (by omega)]
  · obtain ⟨m, rfl⟩ : ∃ m, s = -m := ⟨-s, by omega⟩
    have e1 : Int.tdiv (-m) 2 = -(m / 2) := by rw [Int.neg_tdiv, tdivp (by omega)]
    have e2 : Int.tmod (-m) 2 = -(m % 2) := by rw [Int.neg_tmod, tmodp (by omega)]
    rw [e1, e2, i64_id (x := -(m / 2)) (by omega), i64_id (by omega)]
    by_cases hm : m % 2 = 0
    · rw [if_neg (by simp [hm])]; congr 1; omega
    · rw [if_pos (by simp; omega)]; congr 1; omega
theorem rmidpoint_eq {l : List Int} {f : Int} (hl : (l.length : Int) ≤ 1000000) : m_ref33_Midpoint l f = some (if midOk l f = true then (mid l f, 0) else (0, 2)) := by
  unfold m_ref33_Midpoint midOk
  rw [rfits_eq, Option.bind_some]
  by_cases hok : okN l.length f
  · have hok' := hok
    rw [decide_eq_true hok]
    simp only [Bool.not_true, Bool.false_eq_true, if_false, Bool.true_and, jp0]
    rw [rmid_loop hl FUEL 0 (by omega) (by omega) (by rw [FUEL_eq]; omega), Int.toNat_zero, List.drop_zero]
    cases hin : l.all inT
    · rfl
    · simp only [if_true]
      rw [i64_id (x := (l.length : Int) - 1) (by omega), i64_id (x := (l.length : Int) - 1 - f) (by omega)]
      rw [rank_eq hl (by omega) (by omega), Option.bind_some, rank_eq hl (by omega) (by omega), Option.bind_some]
      have h1 := stat_mem (l := l) (k := f) (by omega) (by omega)
      have h2 := stat_mem (l := l) (k := l.length - 1 - f) (by omega) (by omega)
      have ha := List.all_eq_true.1 hin
      have b1 := ha _ h1
      have b2 := ha _ h2
      simp only [inT, decide_eq_true_eq] at b1 b2
      rw [i64_id (by omega)]
      simp only [jp1]
      exact (half_eq _ (by omega) (fun x => some (x, (0 : Int)))).trans rfl
  · rw [decide_eq_false hok]; rfl
theorem mid_bd {l : List Int} {f : Int} (h : midOk l f = true) : -1073741824 ≤ mid l f ∧ mid l f ≤ 1073741824 := by
  unfold midOk at h
  rw [Bool.and_eq_true, decide_eq_true_eq] at h
  have h1 := stat_mem (l := l) (k := f) (by omega) (by omega)
  have h2 := stat_mem (l := l) (k := l.length - 1 - f) (by omega) (by omega)
  have ha := List.all_eq_true.1 h.2
  have b1 := ha _ h1
  have b2 := ha _ h2
  simp only [inT, decide_eq_true_eq] at b1 b2
  unfold mid; omega
theorem ints_loop {a b : List Int} {k : Option Bool} (hab : a.length = b.length) (hl : (a.length : Int) ≤ 1000000) :
    ∀ (n : Nat) (i : Int), 0 ≤ i → i ≤ a.length → a.length - i < n → m_law33_Ints_L2 a b k n i = if a.drop i.toNat = b.drop i.toNat then k else some false := by
  intro n
  induction n with
  | zero => intro i; omega
  | succ n ih =>
    intro i h0 h1 h2
    rw [m_law33_Ints_L2]
    by_cases hi : i < a.length
    · rw [if_pos (by simpa using hi), chk_pos ⟨h0, hi⟩, chk_pos ⟨h0, by omega⟩, drop_cons h0 hi, drop_cons (l := b) h0 (by omega)]
      by_cases he : nth a i = nth b i
      · rw [if_neg (by simpa using he), step64 h0 hi (by omega), ih (i + 1) (by omega) (by omega) (by omega)]
        simp [he]
      · rw [if_pos (by simpa using he), if_neg (by simp [he])]
    · rw [if_neg (by simpa using hi), drop_end hi, drop_end (l := b) (by omega)]; simp
theorem ints_eq {a b : List Int} (hl : (a.length : Int) ≤ 1000000) : m_law33_Ints a b = some (decide (a = b)) := by
  unfold m_law33_Ints
  by_cases hab : a.length = b.length
  · rw [if_neg (by simp; omega)]
    simp only [jp0]
    rw [ints_loop hab hl FUEL 0 (by omega) (by omega) (by rw [FUEL_eq]; omega)]
    by_cases h : a = b <;> simp [h]
  · rw [if_pos (by simp; omega)]
    rw [decide_eq_false]
    rintro rfl; exact hab rfl
def bad (lo hi : Int) (l : List Int) : Nat := l.countP (fun y => !decide (lo ≤ y ∧ y ≤ hi))
theorem bad_mono {lo hi lo' hi' : Int} {l : List Int} (h1 : lo' ≤ lo) (h2 : hi ≤ hi') : bad lo' hi' l ≤ bad lo hi l :=
  countP_pair (fun x _ hx => by simp at hx ⊢; omega)
theorem mid_between {t : List Int} {f lo hi : Int} (hok : okN t.length f) (hb : (bad lo hi t : Int) ≤ f) : lo ≤ mid t f ∧ mid t f ≤ hi := by
  have h1 : lo ≤ stat t f := stat_ge (by omega) (by omega) (by
    have : t.countP (fun x => decide (x < lo)) ≤ bad lo hi t := countP_pair (fun x _ hx => by simp at hx ⊢; omega)
    omega)
  have h2 : stat t (t.length - 1 - f) ≤ hi := stat_le (by omega) (by omega) (by
    have h3 : t.length ≤ t.countP (fun x => decide (x ≤ hi)) + bad lo hi t := by
      have := List.length_eq_countP_add_countP (l := t) (fun x => decide (x ≤ hi))
      have h4 : t.countP (fun a => decide ¬(decide (a ≤ hi) = true)) ≤ bad lo hi t := countP_pair (fun x _ hx => by simp at hx ⊢; omega)
      omega
    omega)
  have h3 : stat t f ≤ stat t (t.length - 1 - f) := stat_mono (by omega) (by omega) (by omega)
  unfold mid
  omega
theorem stat_congr {l m : List Int} (h : l.Perm m) (k : Int) : stat l k = stat m k := by unfold stat; rw [isort_congr h]
theorem stat_shift {l : List Int} {c k : Int} (h0 : 0 ≤ k) (h1 : k < l.length) : stat (l.map (· + c)) k = stat l k + c := by
  have h := stat_count h0 h1
  refine stat_unique h0 (by simpa using h1) ?_ ?_
  · rw [List.countP_map]
    have : l.countP ((fun x => decide (x < stat l k + c)) ∘ (· + c)) = l.countP (fun x => decide (x < stat l k)) := by
      apply List.countP_congr; intro x _; simp
    omega
  · rw [List.countP_map]
    have : l.countP ((fun x => decide (x ≤ stat l k + c)) ∘ (· + c)) = l.countP (fun x => decide (x ≤ stat l k)) := by
      apply List.countP_congr; intro x _; simp
    omega
end Go.Proofs.Ytbejngeaocfieaa
