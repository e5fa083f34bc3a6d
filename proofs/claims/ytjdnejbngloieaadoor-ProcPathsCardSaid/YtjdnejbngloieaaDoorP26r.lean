/- A part of this claim's proof: models of functions, walks, plain laws. No conditions. -/
import Derived.Test.YtjdnejbngloieaaDoorP26w
namespace Go.Proofs.YtjdnejbngloieaaDoor
open Go Go.RowKit Sep
set_option linter.all false
/-! ### the reference: One, Valid, Successors -/
def ch (o : Int) : Int := if o = 1 then 110 else if o = 2 then 114 else if o = 3 then 118 else if o = 4 then 97 else if o = 5 then 108 else if o = 6 then 120 else 106
theorem y3N {o x : Int} {code : List Sapi_Ins} (ho : 1 ≤ o ∧ o ≤ 7) : y37 (ch o) x code = some (fits o x code.length) := by
 have h : o = 1 ∨ o = 2 ∨ o = 3 ∨ o = 4 ∨ o = 5 ∨ o = 6 ∨ o = 7 := by omega
 rcases h with rfl | rfl | rfl | rfl | rfl | rfl | rfl <;> simp [y37, ch, fits] <;> first | done | omega | (rw [Bool.eq_iff_iff]; simp; omega)
theorem one_loop {s : ByteArray} {code : List Sapi_Ins} {i : Int} {ks : List Int} {k : Option Bool} {n : Nat} (hs : s.size = ks.length) (hb : ∀ (j : Nat), j < ks.length → y35 s (j : Int) = ch (nth ks (j : Int))) (hk : ∀ q ∈ ks, 1 ≤ q ∧ q ≤ 7) (h3 : ks.length ≤ 3) (hn : 4 ≤ n) (hkk : k = some true) :
  y17 (s, true) code i k n 0 = some ((ks.zip (y3E (nth code i))).all fun p => fits p.1 p.2 code.length) := by
 obtain ⟨n, rfl⟩ : ∃ m, n = m + 4 := ⟨n - 4, by omega⟩
 match ks, h3 with
 | [], _ => simp [y17, hs, hkk]
 | [a], _ =>
  have b0 : y35 s 0 = ch a := hb 0 (by simp)
  have f0 := fun x => y3N (x := x) (code := code) (hk a (by simp))
  simp only [y17, hs, y3E, y5U, y4o, y5V, b0]
  generalize nth code i = x
  cases h : fits a x.fA code.length <;> simp [nth, chk, hkk, f0, h]
 | [a, b], _ =>
  have b0 : y35 s 0 = ch a := hb 0 (by simp)
  have b1 : y35 s 1 = ch b := hb 1 (by simp)
  have f0 := fun x => y3N (x := x) (code := code) (hk a (by simp))
  have f1 := fun x => y3N (x := x) (code := code) (hk b (by simp))
  simp only [y17, hs, y3E, y5U, y4o, y5V, b0, b1]
  generalize nth code i = x
  cases h : fits a x.fA code.length <;> cases h' : fits b x.fB code.length <;> simp [nth, chk, hkk, f0, f1, h, h']
 | [a, b, c], _ =>
  have b0 : y35 s 0 = ch a := hb 0 (by simp)
  have b1 : y35 s 1 = ch b := hb 1 (by simp)
  have b2 : y35 s 2 = ch c := hb 2 (by simp)
  have f0 := fun x => y3N (x := x) (code := code) (hk a (by simp))
  have f1 := fun x => y3N (x := x) (code := code) (hk b (by simp))
  have f2 := fun x => y3N (x := x) (code := code) (hk c (by simp))
  simp only [y17, hs, y3E, y5U, y4o, y5V, b0, b1, b2]
  generalize nth code i = x
  cases h : fits a x.fA code.length <;> cases h' : fits b x.fB code.length <;> cases h'' : fits c x.fC code.length <;> simp [nth, chk, hkk, f0, f1, f2, h, h', h'']
theorem kinds_ok : ∀ (o : Nat), o < 26 → 0 < o → ∃ s, y1Z (o : Int) = some (s, true) ∧ s.size = (nth y18 (o : Int)).length ∧ (∀ (j : Nat), j < (nth y18 (o : Int)).length → y35 s (j : Int) = ch (nth (nth y18 (o : Int)) (j : Int))) ∧ (∀ q ∈ nth y18 (o : Int), 1 ≤ q ∧ q ≤ 7) := by
 intro o h1 h0
 match o, h1, h0 with
 | 1, _, _ => exact ⟨_, rfl, rfl, by decide, by decide⟩
 | 2, _, _ => exact ⟨_, rfl, rfl, by decide, by decide⟩
 | 3, _, _ => exact ⟨_, rfl, rfl, by decide, by decide⟩
 | 4, _, _ => exact ⟨_, rfl, rfl, by decide, by decide⟩
 | 5, _, _ => exact ⟨_, rfl, rfl, by decide, by decide⟩
 | 6, _, _ => exact ⟨_, rfl, rfl, by decide, by decide⟩
 | 7, _, _ => exact ⟨_, rfl, rfl, by decide, by decide⟩
 | 8, _, _ => exact ⟨_, rfl, rfl, by decide, by decide⟩
 | 9, _, _ => exact ⟨_, rfl, rfl, by decide, by decide⟩
 | 10, _, _ => exact ⟨_, rfl, rfl, by decide, by decide⟩
 | 11, _, _ => exact ⟨_, rfl, rfl, by decide, by decide⟩
 | 12, _, _ => exact ⟨_, rfl, rfl, by decide, by decide⟩
 | 13, _, _ => exact ⟨_, rfl, rfl, by decide, by decide⟩
 | 14, _, _ => exact ⟨_, rfl, rfl, by decide, by decide⟩
 | 15, _, _ => exact ⟨_, rfl, rfl, by decide, by decide⟩
 | 16, _, _ => exact ⟨_, rfl, rfl, by decide, by decide⟩
 | 17, _, _ => exact ⟨_, rfl, rfl, by decide, by decide⟩
 | 18, _, _ => exact ⟨_, rfl, rfl, by decide, by decide⟩
 | 19, _, _ => exact ⟨_, rfl, rfl, by decide, by decide⟩
 | 20, _, _ => exact ⟨_, rfl, rfl, by decide, by decide⟩
 | 21, _, _ => exact ⟨_, rfl, rfl, by decide, by decide⟩
 | 22, _, _ => exact ⟨_, rfl, rfl, by decide, by decide⟩
 | 23, _, _ => exact ⟨_, rfl, rfl, by decide, by decide⟩
 | 24, _, _ => exact ⟨_, rfl, rfl, by decide, by decide⟩
 | 25, _, _ => exact ⟨_, rfl, rfl, by decide, by decide⟩
 | o + 26, h, _ => omega
theorem kinds_no {o : Int} (h : ¬ (1 ≤ o ∧ o ≤ 25)) : ∃ s, y1Z o = some (s, false) := by
 have e : ∀ k : Int, 1 ≤ k → k ≤ 25 → decide (o = k) = false := fun k h1 h2 => by simp; omega
 refine ⟨⟨#[]⟩, ?_⟩
 unfold y1Z jp1
 simp [e]
theorem One_eq {code : List Sapi_Ins} (hc : code.length ≤ 200) (i : Int) : y2U code i = some (y3k code i) := by
 unfold y2U y3k
 by_cases h : 0 ≤ i ∧ i < code.length
 ·rw [if_neg (by simp; omega), yv h, decide_eq_true h, Bool.true_and]
  unfold y2P
  by_cases ho : 1 ≤ (nth code i).fOp ∧ (nth code i).fOp ≤ 25
  ·obtain ⟨s, e, h1, h2, h3⟩ := kinds_ok (nth code i).fOp.toNat (by omega) (by omega)
   rw [show (((nth code i).fOp.toNat : Nat) : Int) = (nth code i).fOp by omega] at e h1 h2 h3
   have h4 := tab3 (nth code i).fOp.toNat (by omega)
   rw [show (((nth code i).fOp.toNat : Nat) : Int) = (nth code i).fOp by omega] at h4
   rw [e, Option.bind_some, if_neg (by simp), yv h, decide_eq_true ho, Bool.true_and]
   exact y7t fun k hk => one_loop h1 h2 h3 h4 (by rw [y1D]; omega) hk
  ·obtain ⟨s, e⟩ := kinds_no ho
   rw [e, Option.bind_some, if_pos (by simp), decide_eq_false ho]; rfl
 ·rw [if_pos (by simp; omega), decide_eq_false h]; rfl
theorem y60 {code : List Sapi_Ins} (hc : code.length ≤ 200) : ∀ (n : Nat) (i : Int), 0 ≤ i → i ≤ code.length → code.length < n + i → y1r code (some true) n i = some ((code.drop i.toNat).all fun x => y2P x code.length)
 | 0, i, h0, h1, h2 => by omega
 | n + 1, i, h0, h1, h2 => by
  rw [y1r]
  by_cases h : i < code.length
  ·rw [if_pos (decide_eq_true h), One_eq hc, Option.bind_some, y3P h0 h, List.all_cons]
   unfold y3k
   rw [decide_eq_true ⟨h0, h⟩, Bool.true_and]
   cases hv : y2P (nth code i) code.length
   ·rw [if_pos (by rfl)]; rfl
   ·rw [if_neg (by simp), yU (by omega), y60 hc n (i + 1) (by omega) (by omega) (by omega), Bool.true_and]
  ·rw [if_neg (by simpa using h), List.drop_eq_nil_of_le (by omega)]; rfl
theorem y6M {code : List Sapi_Ins} (hc : code.length ≤ 200) : y20 code = some (y2K code) := by
 unfold y20
 refine y7t fun k hk => ?_
 subst hk
 rw [y60 hc yB 0 (by omega) (by omega) (by rw [y1D]; omega)]
 rfl
theorem y69 {code : List Sapi_Ins} (hc : code.length ≤ 200) (i : Int) : y1d code i = some (yT code i) := by
 unfold y1d yT
 rw [One_eq hc, Option.bind_some]
 by_cases h : y3k code i = true
 ·have hi : 0 ≤ i ∧ i < code.length := by
   unfold y3k at h; simp only [Bool.and_eq_true, decide_eq_true_eq] at h; exact h.1
  simp only [h, if_true, Bool.not_true, Bool.false_eq_true, if_false]
  rw [yv hi, yU (by omega)]
  refine y3X fun k hk => ?_
  have hj : ∀ j : Int, k j = some (y3F (i + 1) j) := fun j => by
   rw [hk]
   unfold y3F
   by_cases h1 : j < i + 1
   ·rw [if_pos (decide_eq_true h1), if_neg (by omega), if_neg (by omega)]
   ·rw [if_neg (by simpa using h1)]
    by_cases h2 : j > i + 1
    ·rw [if_pos (decide_eq_true h2), if_neg (by omega), if_pos (by omega)]
    ·rw [if_neg (by simpa using h2), if_pos (by omega)]
  refine y3X fun k2 hk2 => ?_
  by_cases h19 : (nth code i).fOp = 19
  ·rw [if_pos (decide_eq_true h19), hk2, if_pos (decide_eq_true h19), if_pos (.inl h19)]
  rw [if_neg (by simpa using h19), hk2]
  by_cases h25 : (nth code i).fOp = 25
  ·rw [if_pos (decide_eq_true h25), if_pos (.inr h25)]
  rw [if_neg (by simpa using h25), if_neg (c := (nth code i).fOp = 19 ∨ (nth code i).fOp = 25) (by omega)]
  by_cases h20 : (nth code i).fOp = 20
  ·rw [if_pos (decide_eq_true h20), if_pos h20]
  rw [if_neg (by simpa using h20), if_neg h20]
  by_cases h21 : (nth code i).fOp = 21
  ·rw [if_pos (decide_eq_true h21), if_pos h21, hj]
  rw [if_neg (by simpa using h21), if_neg h21]
  by_cases h22 : (nth code i).fOp = 22
  ·rw [if_pos (decide_eq_true h22), if_pos h22, hj]
  rw [if_neg (by simpa using h22), if_neg h22, hj]
  unfold y3F
  rw [if_pos rfl]
 ·have h' : y3k code i = false := by simpa using h
  simp only [h', Bool.false_eq_true, if_false, Bool.not_false, if_true]
end Go.Proofs.YtjdnejbngloieaaDoor
