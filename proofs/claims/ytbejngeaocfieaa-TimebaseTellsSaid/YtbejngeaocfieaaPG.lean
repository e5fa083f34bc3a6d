/- A part of this claim's proof: models of the functions that the law reaches, with the proof that the functions compute them; plain laws about the models. No conditions beyond those in each theorem's statement. -/
import Derived.Test.YtbejngeaocfieaaPF
set_option linter.all false
namespace Go.Proofs.Ytbejngeaocfieaa
open Go Go.RowKit Sep
theorem runs_len (s : Su) {rounds : Int} (h : 0 ≤ rounds) : ((runs s rounds).length : Int) = rounds + 1 := by
  unfold runs; rw [List.length_map, List.length_range]; omega
theorem runs_nth (s : Su) {rounds i : Int} (h0 : 0 ≤ i) (h1 : i ≤ rounds) : nth (runs s rounds) i = hist s i.toNat := by
  have h := nth_lt (l := runs s rounds) h0 (by rw [runs_len s (by omega)]; omega)
  rw [← h]
  unfold runs
  simp
theorem m31 {n : Int} (hn : 0 ≤ n ∧ n ≤ 255) : i64 (Int.tmod n 31) = Int.tmod n 31 ∧ 0 ≤ Int.tmod n 31 ∧ Int.tmod n 31 ≤ 30 := by
  have h1 := Int.tmod_nonneg 31 hn.1
  have h2 := Int.tmod_lt_of_pos n (show (0 : Int) < 31 by decide)
  exact ⟨i64_id (by omega), h1, by omega⟩
theorem lists_loop {a b : List (List Int)} {k : Option Bool} (hab : a.length = b.length) (hl : (a.length : Int) ≤ 1000000) (hr : ∀ x ∈ a, (x.length : Int) ≤ 1000000) :
    ∀ (n : Nat) (i : Int), 0 ≤ i → i ≤ a.length → a.length - i < n → m_law34_lists_L2 a b k n i = if a.drop i.toNat = b.drop i.toNat then k else some false := by
  intro n
  induction n with
  | zero => intro i; omega
  | succ n ih =>
    intro i h0 h1 h2
    rw [m_law34_lists_L2]
    by_cases hi : i < a.length
    · rw [if_pos (by simpa using hi), chk_pos ⟨h0, hi⟩, chk_pos ⟨h0, by omega⟩, ints_eq (hr _ (nth_mem h0 hi)), Option.bind_some, drop_cons h0 hi, drop_cons (l := b) h0 (by omega)]
      by_cases he : nth a i = nth b i
      · rw [decide_eq_true he, if_neg (by simp), step64 h0 hi (by omega), ih (i + 1) (by omega) (by omega) (by omega)]
        simp [he]
      · rw [decide_eq_false he, if_pos (by simp), if_neg (by simp [he])]
    · rw [if_neg (by simpa using hi), drop_end hi, drop_end (l := b) (by omega)]; simp
theorem lists_eq {a b : List (List Int)} (hl : (a.length : Int) ≤ 1000000) (hr : ∀ x ∈ a, (x.length : Int) ≤ 1000000) : m_law34_lists a b = some (decide (a = b)) := by
  unfold m_law34_lists
  by_cases hab : a.length = b.length
  · rw [if_neg (by simp; omega)]
    refine jp0_use fun k hk => ?_
    rw [lists_loop hab hl hr FUEL 0 (by omega) (by omega) (by rw [FUEL_eq]; omega), hk]
    by_cases h : a = b <;> simp [h]
  · rw [if_pos (by simp; omega)]
    rw [decide_eq_false]
    rintro rfl; exact hab rfl
theorem lcor_loop {s : Su} {v : Int} {k : Option Bool} (hl : (s.fFaulty.length : Int) ≤ 1000000) :
    ∀ (m : Nat) (i : Int), 0 ≤ i → i ≤ s.fFaulty.length → s.fFaulty.length - i < m → m_law34_correct_L2 s v k m i = if (s.fFaulty.drop i.toNat).any (fun x => decide (v = x)) = true then some false else k := by
  intro m
  induction m with
  | zero => intro i; omega
  | succ m ih =>
    intro i h0 h1 h2
    rw [m_law34_correct_L2]
    by_cases hi : i < s.fFaulty.length
    · rw [if_pos (by simpa using hi), chk_pos ⟨h0, hi⟩, drop_cons h0 hi, List.any_cons]
      by_cases he : nth s.fFaulty i = v
      · rw [if_pos (by simpa using he), if_pos (by simp [he])]
      · rw [if_neg (by simpa using he), step64 h0 hi (by omega), ih (i + 1) (by omega) (by omega) (by omega), decide_eq_false (fun h => he h.symm), Bool.false_or]
    · rw [if_neg (by simpa using hi), drop_end hi]; simp
theorem lcor_eq {s : Su} {v : Int} (hl : (s.fFaulty.length : Int) ≤ 1000000) : m_law34_correct s v = some (cor s v) := by
  unfold m_law34_correct cor
  refine jp0_use fun k hk => ?_
  rw [lcor_loop hl FUEL 0 (by omega) (by omega) (by rw [FUEL_eq]; omega), hk]
  simp only [Int.toNat_zero, List.drop_zero]
  cases s.fFaulty.any (fun x => decide (v = x)) <;> rfl
theorem valid_no {s : Su} (h : ¬ Vl s) : m_timebase_Valid s = some false := by
  classical
  rw [valid_eq, decide_eq_false (fun h' => h (vld_iff.1 h'))]
theorem valid_yes {s : Su} (h : Vl s) : m_timebase_Valid s = some true := by
  classical
  rw [valid_eq, decide_eq_true (vld_iff.2 h)]
theorem Vl.fl' {s : Su} (hs : Vl s) : (s.fFaulty.length : Int) ≤ 1000000 := by have := hs.fl; have := hs.f3; have := hs.n13; omega
theorem fit_rd {s : Su} {c : List Int} {r : Int} (h : fit s c) (hr : 0 ≤ r ∧ r ≤ 1000) : Rd s c r := by
  obtain ⟨hs, hl, hb⟩ := h
  have e0 := hs.e0
  have e1 := hs.e1
  exact ⟨by have := hs.n13; omega, fun x hx => by have := wi_iff.1 hb x hx; omega, hr.1, hr.2, hs.fl', fun x hx => by have := hs.er x hx; omega, hs.li⟩
open Classical in
theorem Reads_eq {s : Su} {c : List Int} {r : Int} (hc : (c.length : Int) ≤ 1000000) : m_timebase_Reads s c r = some (if fit s c ∧ 0 ≤ r ∧ r ≤ 1000 then (rds s c r, 0) else ([], 2)) := by
  unfold m_timebase_Reads
  have hq : ((m_timebase_Valid s).bind fun x_8028 => (if !x_8028 then some true else (m_timebase_plan_fits (⟨s⟩ : Stimebase_plan) c).bind fun x_8030 => some (!x_8030))) = some (!decide (fit s c)) := by
    rw [valid_eq, Option.bind_some]
    by_cases hv : Vl s
    · rw [decide_eq_true (vld_iff.2 hv), fits_eq' hc]
      simp only [Bool.not_true, Bool.false_eq_true, if_false, Option.bind_some]
      congr 2
      rw [Bool.eq_iff_iff, Bool.and_eq_true, decide_eq_true_eq, decide_eq_true_eq]
      exact ⟨fun h => ⟨hv, h⟩, fun h => h.2⟩
    · rw [decide_eq_false (fun h => hv (vld_iff.1 h)), decide_eq_false (fun h : fit s c => hv h.1)]; rfl
  have hb : ∀ {α β γ : Type} (o : Option α) (f : α → Option β) (g : β → Option γ), (o.bind fun x => (f x).bind g) = (o.bind f).bind g := fun o f g => by cases o <;> rfl
  rw [hb, hq, Option.bind_some]
  by_cases h : fit s c ∧ 0 ≤ r ∧ r ≤ 1000
  · have h1 := h.1
    have h2 := h.2
    rw [if_pos h, if_neg (by simp [h1]; omega), reads_eq (fit_rd h.1 h.2)]; rfl
  · rw [if_neg h, if_pos]
    by_cases hf : fit s c
    · have h9 : ¬ (0 ≤ r ∧ r ≤ 1000) := fun h' => h ⟨hf, h'⟩
      simp [hf]; omega
    · simp [hf]
end Go.Proofs.Ytbejngeaocfieaa
