/- A part of this claim's proof: models of functions, walks, plain laws. No conditions. -/
import Derived.Test.YtjdnejbngloieaaDoorP26b
namespace Go.Proofs.YtjdnejbngloieaaDoor
open Go Go.RowKit Sep
set_option linter.all false
/-! ### Valid -/
theorem y7d {s : List Sapi_Ins} {f : Sapi_Ins → Option Bool} {p : Sapi_Ins → Bool} (hs : s.length ≤ 200) (hf : ∀ y ∈ s, f y = some (p y)) : ∀ (n : Nat) (v : Int), 0 ≤ v → v ≤ s.length → s.length < n + v →
  ∃ j, yt s f (some (-1)) n v = some j ∧ decide (j ≥ 0) = (s.drop v.toNat).any p
 | 0, v, h0, h2, h1 => by omega
 | n + 1, v, h0, h2, h1 => by
  rw [yt]
  by_cases h : v < s.length
  ·rw [if_pos (decide_eq_true h), yv ⟨h0, h⟩, y3P h0 h, show (v + 1).toNat = v.toNat + 1 by omega]
   rw [show (⟨(nth s v).fOp, (nth s v).fA, (nth s v).fB, (nth s v).fC⟩ : Sapi_Ins) = nth s v from rfl, hf _ (y4E h0 h), Option.bind_some]
   cases hp : p (nth s v)
   ·obtain ⟨j, hj, hd⟩ := y7d hs hf n (v + 1) (by omega) (by omega) (by omega)
    refine ⟨j, by rw [if_neg (by simp), yU (by omega)]; exact hj, ?_⟩
    rw [hd, List.any_cons, hp, Bool.false_or, show (v + 1).toNat = v.toNat + 1 by omega]
   ·exact ⟨v, by rw [if_pos rfl], by rw [List.any_cons, hp]; simpa using h0⟩
  ·rw [if_neg (by simpa using h), List.drop_eq_nil_of_le (by omega)]
   exact ⟨-1, rfl, by simp⟩
def y2K (code : List Sapi_Ins) : Bool := code.all fun x => y2P x code.length
theorem y7e {code : List Sapi_Ins} (hc : code.length ≤ 200) : y2x code = some (y2K code) := by
 unfold y2x yI yX jp0 y2K
 obtain ⟨j, hj, hd⟩ := y7d (s := code) (f := fun y => y1O y code) (p := fun y => !y2P y code.length) hc (fun y _ => by
  unfold y1O; rw [y7c _ (by omega)]; rfl) yB 0 (by omega) (by omega) (by rw [y1D]; omega)
 dsimp only
 rw [hj]
 simp only [Option.bind_some, hd]
 rw [show (0 : Int).toNat = 0 from rfl, List.drop_zero, List.not_any_eq_all_not]
 simp
theorem allV_at {code : List Sapi_Ins} (h : y2K code = true) {i : Int} (h0 : 0 ≤ i) (h1 : i < code.length) : y3k code i = true := by
 unfold y3k
 rw [decide_eq_true ⟨h0, h1⟩, Bool.true_and]
 exact List.all_eq_true.1 h _ (y4E h0 h1)
/-! ### Successors -/
def y3F (a b : Int) : List Int := if a = b then [a] else if a < b then [a, b] else [b, a]
def yT (code : List Sapi_Ins) (i : Int) : List Int :=
 if y3k code i then
  if (nth code i).fOp = 19 ∨ (nth code i).fOp = 25 then [] else if (nth code i).fOp = 20 then [(nth code i).fA]
  else if (nth code i).fOp = 21 then y3F (i + 1) (nth code i).fB else if (nth code i).fOp = 22 then y3F (i + 1) (nth code i).fC else [i + 1]
 else []
theorem m64_1 : i64 (1 - 1) = 0 := yU (by omega)
theorem y6m {a b : Int} : yF [a, b] = some (if a = b then [a] else [a, b]) := by
 unfold yF jp0
 obtain ⟨n, hn⟩ : ∃ n, yB = n + 2 := ⟨18446744073709551614, rfl⟩
 by_cases e : a = b
 ·subst e
  rw [if_neg (by simp), hn]
  simp only [yE, yz, jp0, jp2, m64_1, y4o]
  simp [nth, chk]
  rw [hn]
  simp [yz]
 ·rw [if_neg (by simp), hn]
  simp only [yE, yz, jp0, jp2, m64_1, y4o]
  simp [nth, chk, e, Ne.symm e]
theorem isort2 (a b : Int) : y4l [a, b] = if a ≤ b then [a, b] else [b, a] := rfl
theorem sc2 (a b : Int) : ((y1Y ([a] ++ [b])).bind fun x => (yF x).bind fun y => some y) = some (y3F a b) := by
 unfold y1Y y3F
 rw [yv (by simp)]
 simp only [List.cons_append, List.nil_append, isort2, Option.bind_some]
 by_cases h : a ≤ b
 ·rw [if_pos h, y6m]
  by_cases e : a = b
  ·simp [e]
  ·rw [if_neg e, if_neg e, if_pos (by omega)]; rfl
 ·rw [if_neg h, y6m, if_neg (by omega), if_neg (by omega), if_neg (by omega)]; rfl
theorem sc1 (a : Int) : ((y1Y [a]).bind fun x => (yF x).bind fun y => some y) = some [a] := by
 unfold y1Y
 rw [yv (by simp)]
 simp only [Option.bind_some, show y4l [a] = [a] from rfl, yF]
 rw [if_pos (by simp)]; rfl
theorem y7D {code : List Sapi_Ins} (hc : code.length ≤ 200) (i : Int) : y1y code i = some (yT code i) := by
 unfold y1y yT
 rw [at_eq hc, Option.bind_some]
 unfold atP
 by_cases h : y3k code i = true
 ·simp only [h, if_true, Bool.not_true, Bool.false_eq_true, if_false]
  have hi : 0 ≤ i ∧ i < code.length := by
   unfold y3k at h; simp only [Bool.and_eq_true, decide_eq_true_eq] at h; exact h.1
  rw [yU (x := i + 1) (by omega)]
  unfold jp1
  dsimp only
  by_cases h19 : (nth code i).fOp = 19
  ·simp [h19]
  by_cases h25 : (nth code i).fOp = 25
  ·simp [h25]
  simp only [h19, h25, decide_false, Bool.false_eq_true, if_false, or_self]
  by_cases h20 : (nth code i).fOp = 20
  ·simp [h20]
  by_cases h21 : (nth code i).fOp = 21
  ·simp only [h21, h20, decide_true, if_true]
   rw [if_neg (by simp), yv (by simp), if_neg (by simp)]
   exact sc2 _ _
  by_cases h22 : (nth code i).fOp = 22
  ·simp only [h22, decide_true, if_true]
   rw [if_neg (by simp), if_neg (by simp), yv (by simp), if_neg (by simp), if_neg (by simp)]
   exact sc2 _ _
  simp only [h20, h21, h22, decide_false, Bool.false_eq_true, if_false]
  exact sc1 _
 ·have h' : y3k code i = false := by simpa using h
  simp only [h', Bool.false_eq_true, if_false, Bool.not_false, if_true]
theorem y8b (a b : Int) : (y3F a b).length ≤ 2 := by
 unfold y3F
 repeat' split
 all_goals simp
theorem y6I {a b s : Int} (h : s ∈ y3F a b) : s = a ∨ s = b := by
 unfold y3F at h; repeat' split at h
 all_goals (simp at h; omega)
theorem y1w {code : List Sapi_Ins} {i s : Int} (h : s ∈ yT code i) : 0 ≤ i ∧ i < code.length ∧ 0 ≤ s ∧ s ≤ code.length := by
 unfold yT at h
 split at h
 ·rename_i hk
  unfold y3k at hk
  simp only [Bool.and_eq_true, decide_eq_true_eq] at hk
  obtain ⟨hi, hv⟩ := hk
  obtain ⟨j1, j2, j3⟩ := vJ hv
  refine ⟨hi.1, hi.2, ?_⟩
  split at h
  ·cases h
  ·split at h
   ·rename_i e; have := j1 e; simp at h; omega
   ·split at h
    ·rename_i e; have := j2 e; rcases y6I h with h | h <;> omega
    ·split at h
     ·rename_i e; have := j3 e; rcases y6I h with h | h <;> omega
     ·simp at h; omega
 ·cases h
theorem y3q (code : List Sapi_Ins) (i : Int) : (yT code i).length ≤ 2 := by
 unfold yT
 repeat' split
 all_goals first | (simp; done) | exact y8b _ _
end Go.Proofs.YtjdnejbngloieaaDoor
