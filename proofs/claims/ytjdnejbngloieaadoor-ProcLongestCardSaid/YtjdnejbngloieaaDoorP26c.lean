/- A part of this claim's proof: models of functions, walks, plain laws. No conditions. -/
import Derived.Test.YtjdnejbngloieaaDoorP26b
namespace Go.Proofs.YtjdnejbngloieaaDoor
open Go Go.RowKit Sep
set_option linter.all false
/-! ### Valid -/
theorem y7p {s : List Sapi_Ins} {f : Sapi_Ins → Option Bool} {p : Sapi_Ins → Bool} (hs : s.length ≤ 200) (hf : ∀ y ∈ s, f y = some (p y)) : ∀ (n : Nat) (v : Int), 0 ≤ v → v ≤ s.length → s.length < n + v →
  ∃ j, yA s f (some (-1)) n v = some j ∧ decide (j ≥ 0) = (s.drop v.toNat).any p
 | 0, v, h0, h2, h1 => by omega
 | n + 1, v, h0, h2, h1 => by
  rw [yA]
  by_cases h : v < s.length
  ·rw [if_pos (decide_eq_true h), yv ⟨h0, h⟩, y88 h0 h, show (v + 1).toNat = v.toNat + 1 by omega]
   rw [show (⟨(nth s v).fOp, (nth s v).fA, (nth s v).fB, (nth s v).fC⟩ : Sapi_Ins) = nth s v from rfl, hf _ (y50 h0 h), Option.bind_some]
   cases hp : p (nth s v)
   ·obtain ⟨j, hj, hd⟩ := y7p hs hf n (v + 1) (by omega) (by omega) (by omega)
    refine ⟨j, by rw [if_neg (by simp), y1f (by omega)]; exact hj, ?_⟩
    rw [hd, List.any_cons, hp, Bool.false_or, show (v + 1).toNat = v.toNat + 1 by omega]
   ·exact ⟨v, by rw [if_pos rfl], by rw [List.any_cons, hp]; simpa using h0⟩
  ·rw [if_neg (by simpa using h), List.drop_eq_nil_of_le (by omega)]
   exact ⟨-1, rfl, by simp⟩
def y3H (code : List Sapi_Ins) : Bool := code.all fun x => y1h x code.length
theorem y7q {code : List Sapi_Ins} (hc : code.length ≤ 200) : y2i code = some (y3H code) := by
 unfold y2i yW y16 jp0 y3H
 obtain ⟨j, hj, hd⟩ := y7p (s := code) (f := fun y => y2f y code) (p := fun y => !y1h y code.length) hc (fun y _ => by
  unfold y2f; rw [y7o _ (by omega)]; rfl) y1K 0 (by omega) (by omega) (by rw [y48]; omega)
 dsimp only
 rw [hj]
 simp only [Option.bind_some, hd]
 rw [show (0 : Int).toNat = 0 from rfl, List.drop_zero, List.not_any_eq_all_not]
 simp
theorem y7K {code : List Sapi_Ins} (h : y3H code = true) {i : Int} (h0 : 0 ≤ i) (h1 : i < code.length) : y2a code i = true := by
 unfold y2a
 rw [decide_eq_true ⟨h0, h1⟩, Bool.true_and]
 exact List.all_eq_true.1 h _ (y50 h0 h1)
/-! ### Successors -/
def y3b (a b : Int) : List Int := if a = b then [a] else if a < b then [a, b] else [b, a]
def y19 (code : List Sapi_Ins) (i : Int) : List Int :=
 if y2a code i then
  if (nth code i).fOp = 19 ∨ (nth code i).fOp = 25 then [] else if (nth code i).fOp = 20 then [(nth code i).fA]
  else if (nth code i).fOp = 21 then y3b (i + 1) (nth code i).fB else if (nth code i).fOp = 22 then y3b (i + 1) (nth code i).fC else [i + 1]
 else []
theorem m64_1 : i64 (1 - 1) = 0 := y1f (by omega)
theorem y6E {a b : Int} : yP [a, b] = some (if a = b then [a] else [a, b]) := by
 unfold yP jp0
 obtain ⟨n, hn⟩ : ∃ n, y1K = n + 2 := ⟨18446744073709551614, rfl⟩
 by_cases e : a = b
 ·subst e
  rw [if_neg (by simp), hn]
  simp only [yO, yF, jp0, jp2, m64_1, y6C]
  simp [nth, chk]
  rw [hn]
  simp [yF]
 ·rw [if_neg (by simp), hn]
  simp only [yO, yF, jp0, jp2, m64_1, y6C]
  simp [nth, chk, e, Ne.symm e]
theorem isort2 (a b : Int) : y4y [a, b] = if a ≤ b then [a, b] else [b, a] := rfl
theorem sc2 (a b : Int) : ((y2o ([a] ++ [b])).bind fun x => (yP x).bind fun y => some y) = some (y3b a b) := by
 unfold y2o y3b
 rw [yv (by simp)]
 simp only [List.cons_append, List.nil_append, isort2, Option.bind_some]
 by_cases h : a ≤ b
 ·rw [if_pos h, y6E]
  by_cases e : a = b
  ·simp [e]
  ·rw [if_neg e, if_neg e, if_pos (by omega)]; rfl
 ·rw [if_neg h, y6E, if_neg (by omega), if_neg (by omega), if_neg (by omega)]; rfl
theorem sc1 (a : Int) : ((y2o [a]).bind fun x => (yP x).bind fun y => some y) = some [a] := by
 unfold y2o
 rw [yv (by simp)]
 simp only [Option.bind_some, show y4y [a] = [a] from rfl, yP]
 rw [if_pos (by simp)]; rfl
theorem Succ_eq {code : List Sapi_Ins} (hc : code.length ≤ 200) (i : Int) : y2c code i = some (y19 code i) := by
 unfold y2c y19
 rw [at_eq hc, Option.bind_some]
 unfold atP
 by_cases h : y2a code i = true
 ·simp only [h, if_true, Bool.not_true, Bool.false_eq_true, if_false]
  have hi : 0 ≤ i ∧ i < code.length := by
   unfold y2a at h; simp only [Bool.and_eq_true, decide_eq_true_eq] at h; exact h.1
  rw [y1f (x := i + 1) (by omega)]
  unfold jp1
  dsimp only
  by_cases h19 : (nth code i).fOp = 19
  ·simp [h19]
  by_cases h25 : (nth code i).fOp = 25
  ·simp [h25]
  simp only [h19, h25, decide_false, Bool.false_eq_true, if_false, or_self]
  by_cases h20 : (nth code i).fOp = 20
  ·simp [h20]
  by_cases h21 : (nth code i).fOp = 21
  ·simp only [h21, h20, decide_true, if_true]
   rw [if_neg (by simp), yv (by simp), if_neg (by simp)]
   exact sc2 _ _
  by_cases h22 : (nth code i).fOp = 22
  ·simp only [h22, decide_true, if_true]
   rw [if_neg (by simp), if_neg (by simp), yv (by simp), if_neg (by simp), if_neg (by simp)]
   exact sc2 _ _
  simp only [h20, h21, h22, decide_false, Bool.false_eq_true, if_false]
  exact sc1 _
 ·have h' : y2a code i = false := by simpa using h
  simp only [h', Bool.false_eq_true, if_false, Bool.not_false, if_true]
theorem y8h (a b : Int) : (y3b a b).length ≤ 2 := by
 unfold y3b
 repeat' split
 all_goals simp
theorem y6U {a b s : Int} (h : s ∈ y3b a b) : s = a ∨ s = b := by
 unfold y3b at h; repeat' split at h
 all_goals (simp at h; omega)
theorem y5G {code : List Sapi_Ins} {i s : Int} (h : s ∈ y19 code i) : 0 ≤ i ∧ i < code.length ∧ 0 ≤ s ∧ s ≤ code.length := by
 unfold y19 at h
 split at h
 ·rename_i hk
  unfold y2a at hk
  simp only [Bool.and_eq_true, decide_eq_true_eq] at hk
  obtain ⟨hi, hv⟩ := hk
  obtain ⟨j1, j2, j3⟩ := vJ hv
  refine ⟨hi.1, hi.2, ?_⟩
  split at h
  ·cases h
  ·split at h
   ·rename_i e; have := j1 e; simp at h; omega
   ·split at h
    ·rename_i e; have := j2 e; rcases y6U h with h | h <;> omega
    ·split at h
     ·rename_i e; have := j3 e; rcases y6U h with h | h <;> omega
     ·simp at h; omega
 ·cases h
theorem y7r (code : List Sapi_Ins) (i : Int) : (y19 code i).length ≤ 2 := by
 unfold y19
 repeat' split
 all_goals first | (simp; done) | exact y8h _ _
end Go.Proofs.YtjdnejbngloieaaDoor
