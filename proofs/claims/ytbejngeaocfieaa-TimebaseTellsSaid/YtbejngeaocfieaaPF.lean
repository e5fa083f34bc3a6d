/- A part of this claim's proof: models of the functions that the law reaches, with the proof that the functions compute them; plain laws about the models. No conditions beyond those in each theorem's statement. -/
import Derived.Test.YtbejngeaocfieaaPE
set_option linter.all false
namespace Go.Proofs.Ytbejngeaocfieaa
open Go Go.RowKit Sep
section
variable {s : Su} {c : List Int} {r : Int}
theorem rd_cor (hs : Vl s) (hr : 0 ≤ r) {i j : Int} (hi : 0 ≤ i) (hj : 0 ≤ j) (hc : cor s j = true) : nth c j - s.fE ≤ rd s c r i j ∧ rd s c r i j ≤ nth c j + s.fE := by
  unfold rd
  have e0 := hs.e0
  split
  · omega
  · have h0 : 0 ≤ (r * c.length + i) * c.length + j := Int.add_nonneg (Int.mul_nonneg (Int.add_nonneg (Int.mul_nonneg hr (by omega)) hi) (by omega)) hj
    have := cyc_bd (l := s.fErrs) h0 e0 hs.er
    omega
theorem row_count (p : Int → Bool) (i : Int) : (rrow s c r i).countP p = (rng 0 c.length).countP (fun j => p (rd s c r i j)) := by
  unfold rrow; rw [List.countP_map]; rfl
theorem own_count (p : Int → Bool) : (own s c).countP p = (rng 0 c.length).countP (fun j => p (nth c j) && cor s j) := by
  unfold own; rw [List.countP_map, List.countP_filter]; rfl
theorem cnt_mono {l : List Int} {p q : Int → Bool} (h : ∀ x ∈ l, p x = true → q x = true) : l.countP p ≤ l.countP q := List.countP_mono_left h
theorem row_bad (hs : Vl s) (hr : 0 ≤ r) {i lo hi : Int} (hi0 : 0 ≤ i) (h : ∀ x ∈ own s c, lo ≤ x ∧ x ≤ hi) : (bad (lo - s.fE) (hi + s.fE) (rrow s c r i) : Int) ≤ s.fF := by
  have h1 : bad (lo - s.fE) (hi + s.fE) (rrow s c r i) ≤ (rng 0 c.length).countP (fun j => !cor s j) := by
    unfold bad
    rw [row_count]
    refine cnt_mono fun j hj hb => ?_
    rw [rng_mem] at hj
    cases hc : cor s j
    · rfl
    · exfalso
      have h2 := rd_cor (c := c) hs hr hi0 hj.1 hc
      have h3 := h _ (own_mem.2 ⟨j, hj.1, by omega, hc, rfl⟩)
      simp only [Bool.not_eq_true', decide_eq_false_iff_not] at hb
      omega
  have := faulty_count s c.length
  have := hs.fl
  omega
theorem row_okN (hs : Vl s) (hl : c.length = s.fStart.length) (i : Int) : okN (rrow s c r i).length s.fF := by rw [rrow_len, hl]; exact okN_row hs
theorem mid_range (hs : Vl s) (hr : 0 ≤ r) (hl : c.length = s.fStart.length) {i lo hi : Int} (hi0 : 0 ≤ i) (h : ∀ x ∈ own s c, lo ≤ x ∧ x ≤ hi) :
    lo - s.fE ≤ mid (rrow s c r i) s.fF ∧ mid (rrow s c r i) s.fF ≤ hi + s.fE := mid_between (row_okN hs hl i) (row_bad hs hr hi0 h)
theorem mid_diff (hs : Vl s) (hr : 0 ≤ r) (hl : c.length = s.fStart.length) {i k : Int} (hi0 : 0 ≤ i) (hk0 : 0 ≤ k) :
    2 * (mid (rrow s c r i) s.fF - mid (rrow s c r k) s.fF) ≤ spr s c + 4 * s.fE + 1 := by
  have n1 := hs.n1
  have f0 := hs.f0
  have f3 := hs.f3
  have ho := own_len (s := s) (l := c)
  have hf := hs.fl
  have hp := own_pos hs hl
  have hfc : (rng 0 c.length).countP (fun j => !cor s j) + (own s c).length = c.length := by
    have h2 := List.length_eq_countP_add_countP (l := rng 0 c.length) (cor s)
    have h3 : (rng 0 c.length).countP (fun a => decide ¬cor s a = true) = (rng 0 c.length).countP (fun i => !cor s i) := by
      congr 1; funext i; cases cor s i <;> rfl
    unfold own
    rw [List.length_map, ← List.countP_eq_length_filter]
    rw [rng_len] at h2
    omega
  have hw := stat_count (l := own s c) (k := s.fF) f0 (by omega)
  generalize stat (own s c) s.fF = w at hw
  have hb : ∀ x ∈ own s c, loOf (own s c) ≤ x ∧ x ≤ hiOf (own s c) := fun x hx => ⟨loOf_le hx, hiOf_ge hx⟩
  have B1 := row_bad (r := r) hs hr hi0 hb
  have B2 := row_bad (r := r) hs hr hk0 hb
  -- the lower of i is low enough
  have A1 : stat (rrow s c r i) s.fF ≤ w + s.fE := stat_le f0 (by rw [rrow_len]; omega) (by
    have : (own s c).countP (fun x => decide (x ≤ w)) ≤ (rrow s c r i).countP (fun x => decide (x ≤ w + s.fE)) := by
      rw [own_count, row_count]
      refine cnt_mono fun j hj hq => ?_
      rw [rng_mem] at hj
      rw [Bool.and_eq_true, decide_eq_true_eq] at hq
      have := rd_cor (c := c) hs hr hi0 hj.1 hq.2
      rw [decide_eq_true_eq]
      omega
    omega)
  have A2 : stat (rrow s c r i) ((rrow s c r i).length - 1 - s.fF) ≤ hiOf (own s c) + s.fE := stat_le (by rw [rrow_len]; omega) (by omega) (by
    have h3 := List.length_eq_countP_add_countP (l := rrow s c r i) (fun x => decide (x ≤ hiOf (own s c) + s.fE))
    have h4 : (rrow s c r i).countP (fun a => decide ¬(decide (a ≤ hiOf (own s c) + s.fE) = true)) ≤ bad (loOf (own s c) - s.fE) (hiOf (own s c) + s.fE) (rrow s c r i) := cnt_mono fun x _ hx => by simp at hx ⊢; omega
    omega)
  have A3 : loOf (own s c) - s.fE ≤ stat (rrow s c r k) s.fF := stat_ge f0 (by rw [rrow_len]; omega) (by
    have h4 : (rrow s c r k).countP (fun x => decide (x < loOf (own s c) - s.fE)) ≤ bad (loOf (own s c) - s.fE) (hiOf (own s c) + s.fE) (rrow s c r k) := cnt_mono fun x _ hx => by simp at hx ⊢; omega
    omega)
  have A4 : w - s.fE ≤ stat (rrow s c r k) ((rrow s c r k).length - 1 - s.fF) := stat_ge (by rw [rrow_len]; omega) (by omega) (by
    have h4 : (rrow s c r k).countP (fun x => decide (x < w - s.fE)) ≤ (rng 0 c.length).countP (fun j => (!cor s j) || (decide (nth c j < w) && cor s j)) := by
      rw [row_count]
      refine cnt_mono fun j hj hq => ?_
      rw [rng_mem] at hj
      rw [decide_eq_true_eq] at hq
      cases hc : cor s j
      · rfl
      · have := rd_cor (c := c) hs hr hk0 hj.1 hc
        simp
        omega
    have h5 := countP_or (fun j => !cor s j) (fun j => decide (nth c j < w) && cor s j) (rng 0 c.length)
    rw [← own_count (fun x => decide (x < w))] at h5
    rw [rrow_len]
    omega)
  unfold mid spr
  omega
theorem nth_map {β : Type} [Inhabited β] {f : Int → β} {l : List Int} {i : Int} (h0 : 0 ≤ i) (h1 : i < l.length) : nth (l.map f) i = f (nth l i) := by
  rw [← nth_lt (l := l.map f) h0 (by simpa using h1), ← nth_lt (l := l) h0 h1]; simp
theorem drf_nth {i : Int} (h0 : 0 ≤ i) (h1 : i < c.length) : nth (drf s c) i = nth c i + nth s.fDrift i := rng_nth h0 h1
theorem spr_drf (hs : Vl s) (hl : c.length = s.fStart.length) : spr s (drf s c) ≤ spr s c + spr s s.fDrift := by
  have hp := own_pos hs (l := drf s c) (by rw [drf_len]; exact hl)
  have dl := hs.dl
  obtain ⟨i, i0, i1, ic, ie⟩ := own_mem.1 (hiOf_mem hp)
  obtain ⟨k, k0, k1, kc, ke⟩ := own_mem.1 (loOf_mem hp)
  rw [drf_len] at i1 k1
  rw [drf_nth i0 i1] at ie
  rw [drf_nth k0 k1] at ke
  have a1 := hiOf_ge (own_mem.2 ⟨i, i0, i1, ic, rfl⟩ : nth c i ∈ own s c)
  have a2 := loOf_le (own_mem.2 ⟨k, k0, k1, kc, rfl⟩ : nth c k ∈ own s c)
  have a3 := hiOf_ge (own_mem.2 ⟨i, i0, by omega, ic, rfl⟩ : nth s.fDrift i ∈ own s s.fDrift)
  have a4 := loOf_le (own_mem.2 ⟨k, k0, by omega, kc, rfl⟩ : nth s.fDrift k ∈ own s s.fDrift)
  unfold spr
  omega
theorem hist_nth (hs : Vl s) (q : Nat) {i : Int} (h0 : 0 ≤ i) (h1 : i < s.fStart.length) : nth (hist s (q + 1)) i = mid (rrow s (drf s (hist s q)) q i) s.fF := by
  have hl : (drf s (hist s q)).length = s.fStart.length := by rw [drf_len, hist_len]
  rw [hist]
  unfold rds
  rw [List.map_map, rng_nth h0 (by omega)]
  rfl
/-- the stage's theorem -/
theorem halves (hs : Vl s) (q : Nat) : spr s (hist s (q + 1)) ≤ (spr s (hist s q) + bound s) / 2 := by
  have hp := own_pos hs (l := hist s (q + 1)) (by rw [hist_len])
  obtain ⟨i, i0, i1, ic, ie⟩ := own_mem.1 (hiOf_mem hp)
  obtain ⟨k, k0, k1, kc, ke⟩ := own_mem.1 (loOf_mem hp)
  rw [hist_len] at i1 k1
  rw [hist_nth hs q i0 i1] at ie
  rw [hist_nth hs q k0 k1] at ke
  have h1 := mid_diff (r := q) hs (by omega) (c := drf s (hist s q)) (by rw [drf_len, hist_len]) i0 k0
  have h2 := spr_drf hs (c := hist s q) (by rw [hist_len])
  unfold bound
  rw [show spr s (hist s (q + 1)) = hiOf (own s (hist s (q + 1))) - loOf (own s (hist s (q + 1))) from rfl, ← ie, ← ke]
  omega
theorem range_law (hs : Vl s) (q : Nat) {i : Int} (h0 : 0 ≤ i) (h1 : i < s.fStart.length) {lo hi : Int} (h : ∀ x ∈ own s (drf s (hist s q)), lo ≤ x ∧ x ≤ hi) :
    lo - s.fE ≤ nth (hist s (q + 1)) i ∧ nth (hist s (q + 1)) i ≤ hi + s.fE := by
  rw [hist_nth hs q h0 h1]
  exact mid_range hs (by omega) (by rw [drf_len, hist_len]) h0 h
theorem spr_hist (hs : Vl s) {r : Nat} : 0 ≤ spr s (hist s r) ∧ spr s (hist s r) ≤ 2 * bnd r :=
  spr_bd (own_pos hs (by rw [hist_len])) (hist_bd hs r)
theorem bound_bd (hs : Vl s) : 1 ≤ bound s ∧ bound s ≤ 10000 := by
  have hp := own_pos hs (l := s.fDrift) (by have := hs.dl; omega)
  have hb := spr_bd hp hs.dr
  have e0 := hs.e0
  have e1 := hs.e1
  unfold bound
  omega
end
end Go.Proofs.Ytbejngeaocfieaa
