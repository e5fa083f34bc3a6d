/- A part of this claim's proof: models of functions, walks, plain laws. No conditions. -/
import Derived.Test.YtjdnejbngloieaaDoorP26b
namespace Go.Proofs.YtjdnejbngloieaaDoor
open Go Go.RowKit Sep
set_option linter.all false
theorem y1n {s : Sproc_State} {x : Sapi_Ins} {m : List Int} {k a b : Int} {d : List Int} {i : Int} (h : 0 ≤ i ∧ i < 4) : yj s x m k a b d i = some () := if_pos h
theorem Stepb_eq {code : List Sapi_Ins} {s : Sproc_State} {mem : List Int} (hc : code.length ≤ 200) (hm : mem.length ≤ 5000) (hr : ∀ i, 0 ≤ rg s.fRegs i ∧ rg s.fRegs i ≤ 255) :
  y3i code s mem = some (if y2a code s.fPc then yD (nth code s.fPc) s mem else (s, ⟨15, 5, 0, []⟩)) := by
 unfold y3i
 rw [at_eq hc]
 unfold atP
 by_cases h : y2a code s.fPc = true
 ·simp only [h, if_true, Option.bind_some, Bool.not_true, Bool.false_eq_true, if_false]
  unfold y2a at h
  simp only [Bool.and_eq_true, decide_eq_true_eq] at h
  obtain ⟨hp, hv⟩ := h
  generalize nth code s.fPc = x at hv ⊢
  have ho := vop hv
  unfold jp10
  dsimp only
  rw [yv (by omega)]
  have hcase : x.fOp = 1 ∨ x.fOp = 2 ∨ x.fOp = 3 ∨ x.fOp = 4 ∨ x.fOp = 5 ∨ x.fOp = 6 ∨ x.fOp = 7 ∨ x.fOp = 8 ∨ x.fOp = 9 ∨ x.fOp = 10 ∨ x.fOp = 11 ∨ x.fOp = 12 ∨ x.fOp = 13 ∨ x.fOp = 14 ∨ x.fOp = 15 ∨ x.fOp = 16 ∨ x.fOp = 17 ∨ x.fOp = 18 ∨ x.fOp = 19 ∨ x.fOp = 20 ∨ x.fOp = 21 ∨ x.fOp = 22 ∨ x.fOp = 23 ∨ x.fOp = 24 ∨ x.fOp = 25 := by omega
  rcases hcase with e | e | e | e | e | e | e | e | e | e | e | e | e | e | e | e | e | e | e | e | e | e | e | e | e
  ·simp only [e, sw, Int.reduceEq, if_true, if_false, yD, y1N, jp1]
   by_cases h1 : s.fLeft = 0 <;> simp only [h1, decide_true, decide_false, if_true, if_false, Bool.false_eq_true, Option.bind_some] <;> split <;> simp_all
  ·have hA := vA hv (by omega)
   simp only [e, sw, Int.reduceEq, if_true, if_false, yD, y24, y1n hA, Option.bind_some, yv hA]
   rfl
  ·have hA := vA hv (by omega)
   have hB := vB hv (by omega)
   simp only [e, sw, Int.reduceEq, if_true, if_false, yD, y25, y1n hA, y1n hB, Option.bind_some, yv hA, yv hB]
   rfl
  ·have hA := vA hv (by omega)
   have hB := vB hv (by omega)
   simp only [e, sw, Int.reduceEq, if_true, if_false, yD, y26, y1n hA, y1n hB, Option.bind_some, yv hA, yv hB]
   rfl
  ·have hA := vA hv (by omega)
   have hC := vC hv (by omega)
   have hM := vM hv (by omega)
   have hR := hr x.fC
   have hi : 0 ≤ i64 (x.fB + i64 (rg s.fRegs x.fC)) := by rw [y1f (x := rg s.fRegs x.fC) (by omega), y1f (by omega)]; omega
   simp only [e, sw, Int.reduceEq, if_true, if_false, yD, y1O, y1d, yM, rgd, y1n hA, y1n hC, Option.bind_some, yv hA, yv hC]
   by_cases hq : i64 (x.fB + i64 (rg s.fRegs x.fC)) ≥ mem.length
   ·simp only [hq, decide_true, if_true, Option.bind_some, Bool.false_eq_true, if_false]
    rfl
   ·simp only [hq, decide_false, if_true, Option.bind_some, Bool.false_eq_true, if_false, y1n hA, yv hA]
    rw [yv (show 0 ≤ i64 (x.fB + i64 (rg s.fRegs x.fC)) ∧ i64 (x.fB + i64 (rg s.fRegs x.fC)) < mem.length by omega)]
    rfl
  ·have hA := vA hv (by omega)
   have hC := vC hv (by omega)
   simp only [e, sw, Int.reduceEq, if_true, if_false, yD, y1C, y1d, yM, rgd, y1n hA, y1n hC, Option.bind_some, yv hA, yv hC]
   by_cases hq : i64 (x.fB + i64 (rg s.fRegs x.fC)) ≥ mem.length
   ·simp only [hq, decide_true, if_true, Option.bind_some, Bool.false_eq_true, if_false]
    rfl
   ·simp only [hq, decide_false, if_true, Option.bind_some, Bool.false_eq_true, if_false, y1n hA, yv hA]
  ·have hB := vB hv (by omega)
   have hN := vN hv (by omega)
   simp only [e, sw, Int.reduceEq, if_true, if_false, yD, y1P, yi, yc, y1n hB, Option.bind_some, yv hB]
   rw [count_eq (by omega)]
   rfl
  ·simp [e, sw, yD, y1Q, yi, yc]
  ·simp [e, sw, yD, y1R, yi, yc]
  ·simp [e, sw, yD, y1B, yi, yc]
  ·simp [e, sw, yD, y1D, yi, yc]
  ·simp [e, sw, yD, y1E, yi, yc]
  ·simp [e, sw, yD, y1F, yi, yc]
  ·have hB := vB hv (by omega)
   simp only [e, sw, Int.reduceEq, if_true, if_false, yD, y27, yi, yc, y1n hB, Option.bind_some, yv hB]
   rfl
  ·simp [e, sw, yD, y28, yi, yc]
  ·have hB := vB hv (by omega)
   simp only [e, sw, Int.reduceEq, if_true, if_false, yD, y1S, yi, yc, y1n hB, Option.bind_some, yv hB]
   rfl
  ·simp [e, sw, yD, y1T, yi, yc]
  ·simp [e, sw, yD, y1G, yi, yc]
  ·simp [e, sw, yD, y1U]
  ·simp [e, sw, yD, y1V]
  ·have hA := vA hv (by omega)
   simp only [e, sw, Int.reduceEq, if_true, if_false, yD, y1W, rgd, y1n hA, Option.bind_some, yv hA]
   by_cases hq : rg s.fRegs x.fA = 0
   ·simp only [hq, decide_true, if_true, Option.bind_some]
    rfl
   ·simp only [hq, decide_false, Bool.false_eq_true, if_false, Option.bind_some]
    rfl
  ·have hA := vA hv (by omega)
   have hB := vB hv (by omega)
   simp only [e, sw, Int.reduceEq, if_true, if_false, yD, y1X, rgd, y1n hA, y1n hB, Option.bind_some, yv hA, yv hB]
   by_cases hq : rg s.fRegs x.fA < rg s.fRegs x.fB
   ·simp only [hq, decide_true, if_true, Option.bind_some]
    rfl
   ·simp only [hq, decide_false, Bool.false_eq_true, if_false, Option.bind_some]
    rfl
  ·have hA := vA hv (by omega)
   have hB := vB hv (by omega)
   simp only [e, sw, Int.reduceEq, if_true, if_false, yD, y29, yM, rgd, y1n hA, y1n hB, Option.bind_some, yv hA, yv hB]
   by_cases hq : rg s.fRegs x.fB ≠ 0
   ·simp only [ne_eq, hq, not_false_eq_true, decide_true, if_true, chk, Option.bind_some]
    rfl
   ·have hq' : rg s.fRegs x.fB = 0 := by omega
    simp only [ne_eq, hq', not_true_eq_false, decide_false, Bool.false_eq_true, if_false, Option.bind_some]
    rfl
  ·simp [e, sw, yD, y1H, yM]
   rfl
  ·simp [e, sw, yD, y1Y]
 ·have h' : y2a code s.fPc = false := by simpa using h
  simp only [h', Bool.false_eq_true, if_false, Option.bind_some, Bool.not_false, if_true]
end Go.Proofs.YtjdnejbngloieaaDoor
