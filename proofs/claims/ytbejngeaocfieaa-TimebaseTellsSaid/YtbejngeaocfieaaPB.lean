/- A part of this claim's proof: models of the functions that the law reaches, with the proof that the functions compute them; plain laws about the models. No conditions beyond those in each theorem's statement. -/
import Derived.Test.YtbejngeaocfieaaPA
set_option linter.all false
namespace Go.Proofs.Ytbejngeaocfieaa
open Go Go.RowKit Sep
abbrev Su := Stimebase_Setup
def wi (n x : Int) : Bool := decide (-n ≤ x ∧ x ≤ n)
theorem within_eq {l : List Int} {n : Int} (hn : 0 ≤ n ∧ n ≤ 1000000000) (hl : (l.length : Int) ≤ 1000000) : m_timebase_within l n = some (l.all (wi n)) := by
  unfold m_timebase_within
  rw [any_int (p := fun x => !wi n x) (fun x _ => by
    unfold m_timebase_within_1 wi
    rw [i64_id (x := 0 - n) (by omega)]
    congr 1; rw [Bool.eq_iff_iff]; simp only [Bool.or_eq_true, Bool.not_eq_true', decide_eq_true_eq, decide_eq_false_iff_not]; omega) (by omega), Option.bind_some, List.all_eq_not_any_not]
theorem rwithin_loop {l : List Int} {n : Int} {k : Option Bool} (hn : 0 ≤ n ∧ n ≤ 1000000000) (hl : (l.length : Int) ≤ 1000000) :
    ∀ (m : Nat) (i : Int), 0 ≤ i → i ≤ l.length → l.length - i < m → m_ref34_within_L2 l n k m i = if (l.drop i.toNat).all (wi n) = true then k else some false := by
  intro m
  induction m with
  | zero => intro i; omega
  | succ m ih =>
    intro i h0 h1 h2
    rw [m_ref34_within_L2]
    by_cases hi : i < l.length
    · rw [if_pos (by simpa using hi), chk_pos ⟨h0, hi⟩, chk_pos (fun _ => ⟨h0, hi⟩), drop_cons h0 hi, List.all_cons, i64_id (x := 0 - n) (by omega)]
      by_cases he : wi n (nth l i) = true
      · have he' := he
        simp only [wi, decide_eq_true_eq] at he'
        rw [if_neg (by simp; omega), step64 h0 hi (by omega), ih (i + 1) (by omega) (by omega) (by omega), he, Bool.true_and]
      · have he' := he
        simp only [wi, decide_eq_true_eq] at he'
        rw [if_pos (by simp; omega), if_neg (by simp [he])]
    · rw [if_neg (by simpa using hi), drop_end hi]; simp
theorem rwithin_eq {l : List Int} {n : Int} (hn : 0 ≤ n ∧ n ≤ 1000000000) (hl : (l.length : Int) ≤ 1000000) : m_ref34_within l n = some (l.all (wi n)) := by
  unfold m_ref34_within
  simp only [jp0]
  rw [rwithin_loop hn hl FUEL 0 (by omega) (by omega) (by rw [FUEL_eq]; omega)]
  simp only [Int.toNat_zero, List.drop_zero]
  cases l.all (wi n) <;> rfl

/-! ### Valid -/
def good (s : Su) (j : Int) : Prop := 0 ≤ nth s.fFaulty j ∧ nth s.fFaulty j < s.fStart.length ∧ (0 < j → nth s.fFaulty (j - 1) < nth s.fFaulty j)
open Classical in
theorem valid_loop {s : Su} {k : Option Bool} (hl : (s.fFaulty.length : Int) ≤ 1000000) :
    ∀ (m : Nat) (i : Int), 0 ≤ i → i ≤ s.fFaulty.length → s.fFaulty.length - i < m → m_timebase_Valid_L2 s k m i = if (∀ j : Int, i ≤ j → j < s.fFaulty.length → good s j) then k else some false := by
  intro m
  induction m with
  | zero => intro i; omega
  | succ m ih =>
    intro i h0 h1 h2
    rw [m_timebase_Valid_L2]
    by_cases hi : i < s.fFaulty.length
    · rw [if_pos (by simpa using hi), chk_pos ⟨h0, hi⟩, chk_pos (fun _ h => by simp only [decide_eq_true_eq] at h; rw [i64_id (x := i - 1) (by omega)]; omega), i64_id (x := i - 1) (by omega)]
      by_cases hg : good s i
      · have hg' := hg
        unfold good at hg'
        rw [if_neg (by simp; omega), step64 h0 hi (by omega), ih (i + 1) (by omega) (by omega) (by omega)]
        congr 1
        exact propext ⟨fun h j hj hj' => (Int.le_iff_lt_or_eq.1 hj).elim (fun h' => h j (by omega) hj') (fun h' => h' ▸ hg), fun h j hj hj' => h j (by omega) hj'⟩
      · have hg' := hg
        unfold good at hg'
        rw [if_pos (by simp; omega), if_neg (fun h => hg (h i (by omega) hi))]
    · rw [if_neg (by simpa using hi), if_pos (fun j hj hj' => by omega)]
open Classical in
theorem rvalid_loop {s : Su} {k : Option Bool} (hl : (s.fFaulty.length : Int) ≤ 1000000) :
    ∀ (m : Nat) (i : Int), 0 ≤ i → i ≤ s.fFaulty.length → s.fFaulty.length - i < m → m_ref34_Valid_L2 s k m i = if (∀ j : Int, i ≤ j → j < s.fFaulty.length → good s j) then k else some false := by
  intro m
  induction m with
  | zero => intro i; omega
  | succ m ih =>
    intro i h0 h1 h2
    rw [m_ref34_Valid_L2]
    by_cases hi : i < s.fFaulty.length
    · rw [if_pos (by simpa using hi), chk_pos ⟨h0, hi⟩, chk_pos (fun _ => ⟨h0, hi⟩), chk_pos (fun _ h => by simp only [decide_eq_true_eq] at h; rw [i64_id (x := i - 1) (by omega)]; omega), chk_pos (fun _ _ => ⟨h0, hi⟩), i64_id (x := i - 1) (by omega)]
      by_cases hg : good s i
      · have hg' := hg
        unfold good at hg'
        rw [if_neg (by simp; omega), step64 h0 hi (by omega), ih (i + 1) (by omega) (by omega) (by omega)]
        congr 1
        exact propext ⟨fun h j hj hj' => (Int.le_iff_lt_or_eq.1 hj).elim (fun h' => h j (by omega) hj') (fun h' => h' ▸ hg), fun h j hj hj' => h j (by omega) hj'⟩
      · have hg' := hg
        unfold good at hg'
        rw [if_pos (by simp; omega), if_neg (fun h => hg (h i (by omega) hi))]
    · rw [if_neg (by simpa using hi), if_pos (fun j hj hj' => by omega)]
abbrev ar (s : Su) : Prop := 1 ≤ (s.fStart.length : Int) ∧ (s.fStart.length : Int) ≤ 13 ∧ (s.fDrift.length : Int) = s.fStart.length ∧ 0 ≤ s.fF ∧ 3 * s.fF + 1 ≤ s.fStart.length ∧ (s.fFaulty.length : Int) ≤ s.fF ∧ 0 ≤ s.fE ∧ s.fE ≤ 1000 ∧ (s.fErrs.length : Int) ≤ 1000 ∧ (s.fLies.length : Int) ≤ 1000
abbrev rest (s : Su) : Bool := s.fStart.all (wi 1048576) && s.fDrift.all (wi 1000) && s.fErrs.all (wi s.fE) && s.fLies.all (wi 1048576)
def vld (s : Su) : Prop := ar s ∧ (∀ j : Int, 0 ≤ j → j < s.fFaulty.length → good s j) ∧ rest s = true
open Classical in
theorem valid_eq (s : Su) : m_timebase_Valid s = some (decide (vld s)) := by
  unfold m_timebase_Valid
  by_cases ha : ar s
  · have ha' := ha
    obtain ⟨a1, a2, a3, a4, a5, a6, a7, a8, a9, a10⟩ := ha'
    rw [if_neg (by rw [i64_id (x := (s.fStart.length : Int) - 1) (by omega), tdivp (by omega), i64_id (by omega)]; simp; omega)]
    simp only [jp0]
    rw [valid_loop (by omega) FUEL 0 (by omega) (by omega) (by rw [FUEL_eq]; omega)]
    rw [within_eq (by omega) (by omega), within_eq (by omega) (by omega), within_eq (by omega) (by omega), within_eq (by omega) (by omega)]
    by_cases hg : ∀ j : Int, 0 ≤ j → j < s.fFaulty.length → good s j
    · rw [if_pos hg]
      have hr : decide (vld s) = rest s := by
        
        by_cases hh : rest s = true
        · rw [hh]; exact decide_eq_true ⟨ha, hg, hh⟩
        · rw [Bool.eq_false_iff.2 hh]; exact decide_eq_false (fun h => hh h.2.2)
      rw [hr]; unfold rest
      cases s.fStart.all (wi 1048576) <;> cases s.fDrift.all (wi 1000) <;> cases s.fErrs.all (wi s.fE) <;> cases s.fLies.all (wi 1048576) <;> rfl
    · rw [if_neg hg, decide_eq_false (fun h => hg h.2.1)]
  · rw [if_pos, decide_eq_false (fun h => ha h.1)]
    by_cases h1 : 1 ≤ (s.fStart.length : Int) ∧ (s.fStart.length : Int) ≤ 13
    · rw [i64_id (x := (s.fStart.length : Int) - 1) (by omega), tdivp (by omega), i64_id (by omega)]; simp; omega
    · simp only [Bool.or_eq_true, decide_eq_true_eq]; omega
open Classical in
theorem rvalid_eq (s : Su) : m_ref34_Valid s = some (decide (vld s)) := by
  unfold m_ref34_Valid
  by_cases ha : ar s
  · have ha' := ha
    obtain ⟨a1, a2, a3, a4, a5, a6, a7, a8, a9, a10⟩ := ha'
    rw [if_neg (by rw [i64_id (x := 3 * s.fF) (by omega), i64_id (by omega)]; simp; omega)]
    simp only [jp0]
    rw [rvalid_loop (by omega) FUEL 0 (by omega) (by omega) (by rw [FUEL_eq]; omega)]
    rw [rwithin_eq (by omega) (by omega), rwithin_eq (by omega) (by omega), rwithin_eq (by omega) (by omega), rwithin_eq (by omega) (by omega)]
    by_cases hg : ∀ j : Int, 0 ≤ j → j < s.fFaulty.length → good s j
    · rw [if_pos hg]
      have hr : decide (vld s) = rest s := by
        
        by_cases hh : rest s = true
        · rw [hh]; exact decide_eq_true ⟨ha, hg, hh⟩
        · rw [Bool.eq_false_iff.2 hh]; exact decide_eq_false (fun h => hh h.2.2)
      rw [hr]; unfold rest
      cases s.fStart.all (wi 1048576) <;> cases s.fDrift.all (wi 1000) <;> cases s.fErrs.all (wi s.fE) <;> cases s.fLies.all (wi 1048576) <;> rfl
    · rw [if_neg hg, decide_eq_false (fun h => hg h.2.1)]
  · rw [if_pos, decide_eq_false (fun h => ha h.1)]
    by_cases h1 : 0 ≤ s.fF ∧ s.fF ≤ 13
    · rw [i64_id (x := 3 * s.fF) (by omega), i64_id (by omega)]; simp; omega
    · simp only [Bool.or_eq_true, decide_eq_true_eq]; omega
theorem wi_iff {l : List Int} {n : Int} : l.all (wi n) = true ↔ ∀ x ∈ l, -n ≤ x ∧ x ≤ n := by simp [wi]
structure Vl (s : Su) : Prop where
  n1 : 1 ≤ (s.fStart.length : Int)
  n13 : (s.fStart.length : Int) ≤ 13
  dl : (s.fDrift.length : Int) = s.fStart.length
  f0 : 0 ≤ s.fF
  f3 : 3 * s.fF + 1 ≤ s.fStart.length
  fl : (s.fFaulty.length : Int) ≤ s.fF
  e0 : 0 ≤ s.fE
  e1 : s.fE ≤ 1000
  el : (s.fErrs.length : Int) ≤ 1000
  ll : (s.fLies.length : Int) ≤ 1000
  go : ∀ j : Int, 0 ≤ j → j < s.fFaulty.length → good s j
  st : ∀ x ∈ s.fStart, -1048576 ≤ x ∧ x ≤ 1048576
  dr : ∀ x ∈ s.fDrift, -1000 ≤ x ∧ x ≤ 1000
  er : ∀ x ∈ s.fErrs, -s.fE ≤ x ∧ x ≤ s.fE
  li : ∀ x ∈ s.fLies, -1048576 ≤ x ∧ x ≤ 1048576
theorem vld_iff {s : Su} : vld s ↔ Vl s := by
  unfold vld ar rest
  simp only [Bool.and_eq_true, wi_iff]
  constructor
  · rintro ⟨⟨a1, a2, a3, a4, a5, a6, a7, a8, a9, a10⟩, g, ⟨⟨b1, b2⟩, b3⟩, b4⟩
    exact ⟨a1, a2, a3, a4, a5, a6, a7, a8, a9, a10, g, b1, b2, b3, b4⟩
  · rintro ⟨a1, a2, a3, a4, a5, a6, a7, a8, a9, a10, g, b1, b2, b3, b4⟩
    exact ⟨⟨a1, a2, a3, a4, a5, a6, a7, a8, a9, a10⟩, g, ⟨⟨b1, b2⟩, b3⟩, b4⟩

/-! ### correct clocks -/
def cor (s : Su) (i : Int) : Bool := !s.fFaulty.any (fun x => decide (i = x))
theorem contains_eq {l : List Int} {v : Int} (hl : (l.length : Int) ≤ 1000000) : m_slices_Contains_int_int l v = some (l.any fun x => decide (v = x)) :=
  contains_func (index_func (L := m_slices_Index_int_int_L2 l v) (f := fun x => some (decide (v = x))) (p := fun x => decide (v = x)) (fun _ _ _ => rfl) (fun _ _ => rfl) (by omega))
theorem correct_eq {s : Su} {i : Int} (hl : (s.fFaulty.length : Int) ≤ 1000000) : m_timebase_plan_correct ⟨s⟩ i = some (cor s i) := by
  unfold m_timebase_plan_correct; rw [contains_eq hl]; rfl
theorem faulty_loop {s : Su} {v : Int} {k : Option Bool} (hl : (s.fFaulty.length : Int) ≤ 1000000) :
    ∀ (m : Nat) (i : Int), 0 ≤ i → i ≤ s.fFaulty.length → s.fFaulty.length - i < m → m_ref34_Faulty_L2 s v k m i = if (s.fFaulty.drop i.toNat).any (fun x => decide (v = x)) = true then some true else k := by
  intro m
  induction m with
  | zero => intro i; omega
  | succ m ih =>
    intro i h0 h1 h2
    rw [m_ref34_Faulty_L2]
    by_cases hi : i < s.fFaulty.length
    · rw [if_pos (by simpa using hi), chk_pos ⟨h0, hi⟩, drop_cons h0 hi, List.any_cons]
      by_cases he : nth s.fFaulty i = v
      · rw [if_pos (by simpa using he), if_pos (by simp [he])]
      · rw [if_neg (by simpa using he), step64 h0 hi (by omega), ih (i + 1) (by omega) (by omega) (by omega), decide_eq_false (fun h => he h.symm), Bool.false_or]
    · rw [if_neg (by simpa using hi), drop_end hi]; simp
theorem faulty_eq {s : Su} {v : Int} (hl : (s.fFaulty.length : Int) ≤ 1000000) : m_ref34_Faulty s v = some (!cor s v) := by
  unfold m_ref34_Faulty cor
  simp only [jp0]
  rw [faulty_loop hl FUEL 0 (by omega) (by omega) (by rw [FUEL_eq]; omega)]
  simp only [Int.toNat_zero, List.drop_zero, Bool.not_not]
  cases s.fFaulty.any (fun x => decide (v = x)) <;> rfl
end Go.Proofs.Ytbejngeaocfieaa
