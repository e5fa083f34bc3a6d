/- A part of this claim's proof: models of the functions that the law reaches, with the proof that the functions compute them; plain laws about the models. No conditions beyond those in each theorem's statement. -/
import Derived.Test.YtbejngeaocfieaaPD
set_option linter.all false
namespace Go.Proofs.Ytbejngeaocfieaa
open Go Go.RowKit Sep
/-! ### greatest and smallest -/
def hiOf (l : List Int) : Int := l.foldl max (nth l 0)
def loOf (l : List Int) : Int := l.foldl min (nth l 0)
theorem foldl_max : ∀ (l : List Int) (a : Int), a ≤ l.foldl max a ∧ (∀ x ∈ l, x ≤ l.foldl max a) ∧ (l.foldl max a = a ∨ l.foldl max a ∈ l)
  | [], a => ⟨by simp, by simp, .inl rfl⟩
  | x :: l, a => by
    obtain ⟨h1, h2, h3⟩ := foldl_max l (max a x)
    rw [List.foldl_cons]
    refine ⟨by omega, fun y hy => ?_, ?_⟩
    · rcases List.mem_cons.1 hy with rfl | hy
      · omega
      · exact h2 y hy
    · rcases h3 with h3 | h3
      · rw [h3]
        by_cases h : a ≤ x
        · right; rw [show max a x = x from by omega]; exact List.mem_cons_self ..
        · left; omega
      · exact .inr (List.mem_cons_of_mem _ h3)
theorem foldl_min : ∀ (l : List Int) (a : Int), l.foldl min a ≤ a ∧ (∀ x ∈ l, l.foldl min a ≤ x) ∧ (l.foldl min a = a ∨ l.foldl min a ∈ l)
  | [], a => ⟨by simp, by simp, .inl rfl⟩
  | x :: l, a => by
    obtain ⟨h1, h2, h3⟩ := foldl_min l (min a x)
    rw [List.foldl_cons]
    refine ⟨by omega, fun y hy => ?_, ?_⟩
    · rcases List.mem_cons.1 hy with rfl | hy
      · omega
      · exact h2 y hy
    · rcases h3 with h3 | h3
      · rw [h3]
        by_cases h : x ≤ a
        · right; rw [show min a x = x from by omega]; exact List.mem_cons_self ..
        · left; omega
      · exact .inr (List.mem_cons_of_mem _ h3)
theorem hiOf_ge {l : List Int} {x : Int} (h : x ∈ l) : x ≤ hiOf l := (foldl_max l _).2.1 x h
theorem loOf_le {l : List Int} {x : Int} (h : x ∈ l) : loOf l ≤ x := (foldl_min l _).2.1 x h
theorem hiOf_mem {l : List Int} (h : 0 < l.length) : hiOf l ∈ l := by
  rcases (foldl_max l (nth l 0)).2.2 with h1 | h1
  · unfold hiOf; rw [h1]; exact nth_mem (by omega) (by omega)
  · exact h1
theorem loOf_mem {l : List Int} (h : 0 < l.length) : loOf l ∈ l := by
  rcases (foldl_min l (nth l 0)).2.2 with h1 | h1
  · unfold loOf; rw [h1]; exact nth_mem (by omega) (by omega)
  · exact h1
theorem max_loop {l : List Int} {k : Int → Option Int} (hl : (l.length : Int) ≤ 1000000) :
    ∀ (m : Nat) (a : Int) (i : Int), 0 ≤ i → i ≤ l.length → l.length - i < m → m_slices_Max_int_int_L2 l k m a i = k ((l.drop i.toNat).foldl max a) := by
  intro m
  induction m with
  | zero => intro a i; omega
  | succ m ih =>
    intro a i h0 h1 h2
    rw [m_slices_Max_int_int_L2]
    by_cases hi : i < l.length
    · rw [if_pos (by simpa using hi), chk_pos ⟨h0, hi⟩, step64 h0 hi (by omega), ih _ (i + 1) (by omega) (by omega) (by omega), drop_cons h0 hi, List.foldl_cons]
    · rw [if_neg (by simpa using hi), drop_end hi]; rfl
theorem min_loop {l : List Int} {k : Int → Option Int} (hl : (l.length : Int) ≤ 1000000) :
    ∀ (m : Nat) (a : Int) (i : Int), 0 ≤ i → i ≤ l.length → l.length - i < m → m_slices_Min_int_int_L2 l k m a i = k ((l.drop i.toNat).foldl min a) := by
  intro m
  induction m with
  | zero => intro a i; omega
  | succ m ih =>
    intro a i h0 h1 h2
    rw [m_slices_Min_int_int_L2]
    by_cases hi : i < l.length
    · rw [if_pos (by simpa using hi), chk_pos ⟨h0, hi⟩, step64 h0 hi (by omega), ih _ (i + 1) (by omega) (by omega) (by omega), drop_cons h0 hi, List.foldl_cons]
    · rw [if_neg (by simpa using hi), drop_end hi]; rfl
theorem max_eq {l : List Int} (h : 0 < l.length) (hl : (l.length : Int) ≤ 1000000) : m_slices_Max_int_int l = some (hiOf l) := by
  unfold m_slices_Max_int_int
  rw [if_neg (by simp; omega), chk_pos (by omega)]
  refine jp1_use fun k hk => ?_
  rw [max_loop hl FUEL _ 1 (by omega) (by omega) (by rw [FUEL_eq]; omega), hk]
  obtain ⟨x, l', rfl⟩ : ∃ x l', l = x :: l' := by cases l with | nil => simp at h | cons x l' => exact ⟨x, l', rfl⟩
  unfold hiOf
  simp [nth, Int.max_self]
theorem min_eq {l : List Int} (h : 0 < l.length) (hl : (l.length : Int) ≤ 1000000) : m_slices_Min_int_int l = some (loOf l) := by
  unfold m_slices_Min_int_int
  rw [if_neg (by simp; omega), chk_pos (by omega)]
  refine jp1_use fun k hk => ?_
  rw [min_loop hl FUEL _ 1 (by omega) (by omega) (by rw [FUEL_eq]; omega), hk]
  obtain ⟨x, l', rfl⟩ : ∃ x l', l = x :: l' := by cases l with | nil => simp at h | cons x l' => exact ⟨x, l', rfl⟩
  unfold loOf
  simp [nth, Int.min_self]

/-! ### the skew -/
def own (s : Su) (l : List Int) : List Int := ((rng 0 l.length).filter (cor s)).map (nth l)
def spr (s : Su) (l : List Int) : Int := hiOf (own s l) - loOf (own s l)
theorem own_mem {s : Su} {l : List Int} {x : Int} : x ∈ own s l ↔ ∃ i : Int, 0 ≤ i ∧ i < l.length ∧ cor s i = true ∧ nth l i = x := by
  unfold own
  simp only [List.mem_map, List.mem_filter, rng_mem]
  exact ⟨fun ⟨i, ⟨h1, h2⟩, h3⟩ => ⟨i, h1.1, by omega, h2, h3⟩, fun ⟨i, h1, h2, h3, h4⟩ => ⟨i, ⟨⟨h1, by omega⟩, h3⟩, h4⟩⟩
theorem countP_or {α : Type} (p q : α → Bool) : ∀ l : List α, l.countP (fun x => p x || q x) ≤ l.countP p + l.countP q
  | [] => by simp
  | x :: l => by
    have := countP_or p q l
    simp only [List.countP_cons]
    cases p x <;> cases q x <;> simp <;> omega
theorem count_one (v : Int) : ∀ (m : Nat) (a : Int), (rng a m).countP (fun i => decide (i = v)) ≤ if a ≤ v then 1 else 0
  | 0, a => by simp [rng]
  | m + 1, a => by
    have := count_one v m (a + 1)
    rw [rng_cons, List.countP_cons]
    by_cases h : a = v
    · have h9 : ¬ (a + 1 ≤ v) := by omega
      rw [if_neg h9] at this
      rw [if_pos (show a ≤ v from by omega)]
      split <;> omega
    · simp only [h, decide_false, Bool.false_eq_true, if_false]
      split at this <;> split <;> omega
theorem count_any (n : Nat) : ∀ l : List Int, (rng 0 n).countP (fun i => l.any fun x => decide (i = x)) ≤ l.length
  | [] => by simp
  | v :: l => by
    have h1 := countP_or (fun i : Int => decide (i = v)) (fun i => l.any fun x => decide (i = x)) (rng 0 n)
    have h2 := count_any n l
    have h3 := count_one v n 0
    simp only [List.any_cons, List.length_cons]
    split at h3 <;> omega
theorem faulty_count (s : Su) (n : Nat) : (rng 0 n).countP (fun i => !cor s i) ≤ s.fFaulty.length := by
  have := count_any n s.fFaulty
  simpa [cor] using this
theorem own_len {s : Su} {l : List Int} : l.length ≤ (own s l).length + s.fFaulty.length := by
  have h1 := faulty_count s l.length
  have h2 := List.length_eq_countP_add_countP (l := rng 0 l.length) (cor s)
  unfold own
  rw [List.length_map, ← List.countP_eq_length_filter]
  rw [rng_len] at h2
  have h3 : (rng 0 l.length).countP (fun a => decide ¬cor s a = true) = (rng 0 l.length).countP (fun i => !cor s i) := by
    congr 1; funext i; cases cor s i <;> rfl
  omega
theorem own_pos {s : Su} (hs : Vl s) {l : List Int} (hl : l.length = s.fStart.length) : 0 < (own s l).length := by
  have := own_len (s := s) (l := l)
  have := hs.fl
  have := hs.f3
  have := hs.f0
  omega
theorem own_le {s : Su} {l : List Int} : (own s l).length ≤ l.length := by
  unfold own
  rw [List.length_map]
  have := List.length_filter_le (cor s) (rng 0 l.length)
  rw [rng_len] at this
  exact this
theorem spread_loop {s : Su} {l : List Int} {k : List Int → Option Int} (hl : (l.length : Int) ≤ 1000000) (hf : (s.fFaulty.length : Int) ≤ 1000000) :
    ∀ (m : Nat) (out : List Int) (i : Int), 0 ≤ i → i ≤ l.length → l.length - i < m → (out.length : Int) ≤ i →
      m_timebase_plan_spread_L2 l ⟨s⟩ k m out i = k (out ++ ((rng i (l.length - i).toNat).filter (cor s)).map (nth l)) := by
  intro m
  induction m with
  | zero => intro out i; omega
  | succ m ih =>
    intro out i h0 h1 h2 h3
    rw [m_timebase_plan_spread_L2]
    by_cases hi : i < l.length
    · rw [if_pos (by simpa using hi)]
      refine jp1_use fun k1 hk1 => ?_
      rw [chk_pos ⟨h0, hi⟩, correct_eq hf, Option.bind_some, rng_from h0 hi]
      by_cases hc : cor s i = true
      · rw [if_pos hc, chk_pos (by simp; omega), hk1, i64_id (x := i + 1) (by omega), ih _ (i + 1) (by omega) (by omega) (by omega) (by simp; omega), List.filter_cons_of_pos hc]
        simp
      · rw [if_neg hc, hk1, i64_id (x := i + 1) (by omega), ih _ (i + 1) (by omega) (by omega) (by omega) (by omega), List.filter_cons_of_neg hc]
    · rw [if_neg (by simpa using hi), rng_end hi]; simp
theorem own_bd {s : Su} {l : List Int} {B : Int} (h : ∀ x ∈ l, -B ≤ x ∧ x ≤ B) : ∀ x ∈ own s l, -B ≤ x ∧ x ≤ B := by
  intro x hx
  obtain ⟨i, h0, h1, _, rfl⟩ := own_mem.1 hx
  exact h _ (nth_mem h0 h1)
theorem spr_bd {s : Su} {l : List Int} {B : Int} (hp : 0 < (own s l).length) (h : ∀ x ∈ l, -B ≤ x ∧ x ≤ B) : 0 ≤ spr s l ∧ spr s l ≤ 2 * B := by
  have h1 := own_bd (s := s) h _ (hiOf_mem hp)
  have h2 := own_bd (s := s) h _ (loOf_mem hp)
  have h3 := hiOf_ge (loOf_mem hp)
  unfold spr
  omega
theorem spread_eq {s : Su} {l : List Int} (hp : 0 < (own s l).length) (hl : (l.length : Int) ≤ 1000000) (hf : (s.fFaulty.length : Int) ≤ 1000000) (hb : ∀ x ∈ l, -1000000000 ≤ x ∧ x ≤ 1000000000) : m_timebase_plan_spread ⟨s⟩ l = some (spr s l) := by
  unfold m_timebase_plan_spread
  refine jp1_use fun k hk => ?_
  rw [spread_loop hl hf FUEL [] 0 (by omega) (by omega) (by rw [FUEL_eq]; omega) (by simp), hk]
  have e : ([] : List Int) ++ ((rng 0 ((l.length : Int) - 0).toNat).filter (cor s)).map (nth l) = own s l := by
    rw [List.nil_append, show ((l.length : Int) - 0).toNat = l.length from by omega]; rfl
  have hle := own_le (s := s) (l := l)
  have hb' := spr_bd hp hb
  rw [e, max_eq hp (by omega), Option.bind_some, min_eq hp (by omega), Option.bind_some]
  unfold spr at hb' ⊢
  rw [i64_id (by omega)]
theorem fits_eq' {s : Su} {c : List Int} (hc : (c.length : Int) ≤ 1000000) : m_timebase_plan_fits ⟨s⟩ c = some (decide ((c.length : Int) = s.fStart.length) && c.all (wi 268435456)) := by
  unfold m_timebase_plan_fits
  dsimp only
  by_cases h : (c.length : Int) = s.fStart.length
  · rw [if_pos (by simpa using h), within_eq (by omega) (by omega), decide_eq_true h]; simp
  · rw [if_neg (by simpa using h), decide_eq_false h]; rfl
def fit (s : Su) (c : List Int) : Prop := Vl s ∧ (c.length : Int) = s.fStart.length ∧ c.all (wi 268435456) = true
open Classical in
theorem skew_eq {s : Su} {c : List Int} (hc : (c.length : Int) ≤ 1000000) : m_timebase_Skew s c = some (if fit s c then (spr s c, 0) else (0, 2)) := by
  unfold m_timebase_Skew
  rw [valid_eq, Option.bind_some]
  by_cases hv : Vl s
  · rw [decide_eq_true (vld_iff.2 hv), fits_eq' hc]
    simp only [Bool.not_true, Bool.false_eq_true, if_false, Option.bind_some]
    by_cases h : (c.length : Int) = s.fStart.length ∧ c.all (wi 268435456) = true
    · rw [if_pos (show fit s c from ⟨hv, h.1, h.2⟩), decide_eq_true h.1, h.2, if_neg (by simp), spread_eq (own_pos hv (by omega)) hc (by have := hv.fl; have := hv.f3; have := hv.n13; omega) (fun x hx => by have := wi_iff.1 h.2 x hx; omega)]
      rfl
    · rw [if_neg (show ¬ fit s c from fun h' => h h'.2), if_pos]
      simp only [Bool.not_eq_true', Bool.and_eq_false_iff, decide_eq_false_iff_not]
      by_cases h1 : (c.length : Int) = s.fStart.length
      · exact .inr (Bool.eq_false_iff.2 fun h2 => h ⟨h1, h2⟩)
      · exact .inl h1
  · rw [if_neg (show ¬ fit s c from fun h => hv h.1), decide_eq_false (fun h => hv (vld_iff.1 h))]; rfl
def bound (s : Su) : Int := spr s s.fDrift + 4 * s.fE + 1
open Classical in
theorem bound_eq (s : Su) : m_timebase_Bound s = some (if Vl s then (bound s, 0) else (0, 2)) := by
  unfold m_timebase_Bound
  rw [valid_eq, Option.bind_some]
  by_cases hv : Vl s
  · have e0 := hv.e0
    have e1 := hv.e1
    have hp := own_pos hv (l := s.fDrift) (by have := hv.dl; omega)
    have hb := spr_bd hp hv.dr
    rw [decide_eq_true (vld_iff.2 hv), if_neg (by simp), if_pos hv, spread_eq hp (by have := hv.dl; have := hv.n13; omega) (by have := hv.fl; have := hv.f3; have := hv.n13; omega) (fun x hx => by have := hv.dr x hx; omega), Option.bind_some]
    rw [i64_id (x := 4 * s.fE) (by omega), i64_id (x := spr s s.fDrift + 4 * s.fE) (by omega), i64_id (by omega)]
    rfl
  · rw [decide_eq_false (fun h => hv (vld_iff.1 h)), if_pos (by simp), if_neg hv]
theorem few_eq (s : Su) : m_law34_few s = some (decide ((s.fStart.length : Int) ≤ 40 ∧ (s.fDrift.length : Int) ≤ 40 ∧ (s.fFaulty.length : Int) ≤ 40 ∧ (s.fErrs.length : Int) ≤ 1001 ∧ (s.fLies.length : Int) ≤ 1001)) := by
  unfold m_law34_few
  congr 1
  rw [Bool.eq_iff_iff]
  simp only [Bool.and_eq_true, decide_eq_true_eq]
  omega
theorem fit_hist {s : Su} (hs : Vl s) {r : Nat} (hr : r ≤ 101) : fit s (hist s r) := by
  refine ⟨hs, by rw [hist_len], wi_iff.2 fun x hx => ?_⟩
  have := hist_bd hs r x hx
  unfold bnd at this
  omega
theorem awake_true : m_law34_awake = some true := by kernel_rfl
open Classical in
/-- how each law begins: what is no valid setup is passed over -/
theorem head_eq (s : Su) (k : Bool → Option Bool) (hf : k true = some true) (h : Vl s → k false = some true) : ((m_law34_few s).bind fun x => (if !x then some true else (m_timebase_Valid s).bind fun x => some (!x)).bind k) = some true := by
  rw [few_eq, Option.bind_some, valid_eq]
  by_cases h1 : (s.fStart.length : Int) ≤ 40 ∧ (s.fDrift.length : Int) ≤ 40 ∧ (s.fFaulty.length : Int) ≤ 40 ∧ (s.fErrs.length : Int) ≤ 1001 ∧ (s.fLies.length : Int) ≤ 1001
  · rw [decide_eq_true h1]
    simp only [Bool.not_true, Bool.false_eq_true, if_false, Option.bind_some]
    by_cases hv : Vl s
    · rw [decide_eq_true (vld_iff.2 hv)]; exact h hv
    · rw [decide_eq_false (fun h => hv (vld_iff.1 h))]; exact hf
  · rw [decide_eq_false h1]; exact hf
end Go.Proofs.Ytbejngeaocfieaa
