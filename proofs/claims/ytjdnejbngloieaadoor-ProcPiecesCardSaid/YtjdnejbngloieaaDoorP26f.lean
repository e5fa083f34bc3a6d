/- A part of this claim's proof: models of functions, walks, plain laws. No conditions. -/
import Derived.Test.YtjdnejbngloieaaDoorP26b
namespace Go.Proofs.YtjdnejbngloieaaDoor
open Go Go.RowKit Sep
set_option linter.all false
theorem y1h {s : Sproc_State} {x : Sapi_Ins} {m : List Int} {k a b : Int} {d : List Int} {i : Int} (h : 0 ≤ i ∧ i < 4) : yj s x m k a b d i = some () := if_pos h
theorem Stepb_eq {code : List Sapi_Ins} {s : Sproc_State} {mem : List Int} (hc : code.length ≤ 200) (hm : mem.length ≤ 5000) (hr : ∀ i, 0 ≤ rg s.fRegs i ∧ rg s.fRegs i ≤ 255) :
  y3c code s mem = some (if y3R code s.fPc then yW (nth code s.fPc) s mem else (s, ⟨15, 5, 0, []⟩)) := by
 unfold y3c
 rw [at_eq hc]
 unfold atP
 by_cases h : y3R code s.fPc = true
 ·simp only [h, if_true, Option.bind_some, Bool.not_true, Bool.false_eq_true, if_false]
  unfold y3R at h
  simp only [Bool.and_eq_true, decide_eq_true_eq] at h
  obtain ⟨hp, hv⟩ := h
  generalize nth code s.fPc = x at hv ⊢
  have ho := vop hv
  unfold jp10
  dsimp only
  rw [yJ (by omega)]
  have hcase : x.fOp = 1 ∨ x.fOp = 2 ∨ x.fOp = 3 ∨ x.fOp = 4 ∨ x.fOp = 5 ∨ x.fOp = 6 ∨ x.fOp = 7 ∨ x.fOp = 8 ∨ x.fOp = 9 ∨ x.fOp = 10 ∨ x.fOp = 11 ∨ x.fOp = 12 ∨ x.fOp = 13 ∨ x.fOp = 14 ∨ x.fOp = 15 ∨ x.fOp = 16 ∨ x.fOp = 17 ∨ x.fOp = 18 ∨ x.fOp = 19 ∨ x.fOp = 20 ∨ x.fOp = 21 ∨ x.fOp = 22 ∨ x.fOp = 23 ∨ x.fOp = 24 ∨ x.fOp = 25 := by omega
  rcases hcase with e | e | e | e | e | e | e | e | e | e | e | e | e | e | e | e | e | e | e | e | e | e | e | e | e
  ·simp only [e, sw, Int.reduceEq, if_true, if_false, yW, y1O, jp1]
   by_cases h1 : s.fLeft = 0 <;> simp only [h1, decide_true, decide_false, if_true, if_false, Bool.false_eq_true, Option.bind_some] <;> split <;> simp_all
  ·have hA := vA hv (by omega)
   simp only [e, sw, Int.reduceEq, if_true, if_false, yW, y23, y1h hA, Option.bind_some, yJ hA]
   rfl
  ·have hA := vA hv (by omega)
   have hB := vB hv (by omega)
   simp only [e, sw, Int.reduceEq, if_true, if_false, yW, y24, y1h hA, y1h hB, Option.bind_some, yJ hA, yJ hB]
   rfl
  ·have hA := vA hv (by omega)
   have hB := vB hv (by omega)
   simp only [e, sw, Int.reduceEq, if_true, if_false, yW, y25, y1h hA, y1h hB, Option.bind_some, yJ hA, yJ hB]
   rfl
  ·have hA := vA hv (by omega)
   have hC := vC hv (by omega)
   have hM := vM hv (by omega)
   have hR := hr x.fC
   have hi : 0 ≤ i64 (x.fB + i64 (rg s.fRegs x.fC)) := by rw [y1p (x := rg s.fRegs x.fC) (by omega), y1p (by omega)]; omega
   simp only [e, sw, Int.reduceEq, if_true, if_false, yW, y1P, y17, yN, rgd, y1h hA, y1h hC, Option.bind_some, yJ hA, yJ hC]
   by_cases hq : i64 (x.fB + i64 (rg s.fRegs x.fC)) ≥ mem.length
   ·simp only [hq, decide_true, if_true, Option.bind_some, Bool.false_eq_true, if_false]
    rfl
   ·simp only [hq, decide_false, if_true, Option.bind_some, Bool.false_eq_true, if_false, y1h hA, yJ hA]
    rw [yJ (show 0 ≤ i64 (x.fB + i64 (rg s.fRegs x.fC)) ∧ i64 (x.fB + i64 (rg s.fRegs x.fC)) < mem.length by omega)]
    rfl
  ·have hA := vA hv (by omega)
   have hC := vC hv (by omega)
   simp only [e, sw, Int.reduceEq, if_true, if_false, yW, y1z, y17, yN, rgd, y1h hA, y1h hC, Option.bind_some, yJ hA, yJ hC]
   by_cases hq : i64 (x.fB + i64 (rg s.fRegs x.fC)) ≥ mem.length
   ·simp only [hq, decide_true, if_true, Option.bind_some, Bool.false_eq_true, if_false]
    rfl
   ·simp only [hq, decide_false, if_true, Option.bind_some, Bool.false_eq_true, if_false, y1h hA, yJ hA]
  ·have hB := vB hv (by omega)
   have hN := vN hv (by omega)
   simp only [e, sw, Int.reduceEq, if_true, if_false, yW, y1Q, yg, yc, y1h hB, Option.bind_some, yJ hB]
   rw [count_eq (by omega)]
   rfl
  ·simp [e, sw, yW, y1R, yg, yc]
  ·simp [e, sw, yW, y1S, yg, yc]
  ·simp [e, sw, yW, y1x, yg, yc]
  ·simp [e, sw, yW, y1A, yg, yc]
  ·simp [e, sw, yW, y1B, yg, yc]
  ·simp [e, sw, yW, y1C, yg, yc]
  ·have hB := vB hv (by omega)
   simp only [e, sw, Int.reduceEq, if_true, if_false, yW, y26, yg, yc, y1h hB, Option.bind_some, yJ hB]
   rfl
  ·simp [e, sw, yW, y27, yg, yc]
  ·have hB := vB hv (by omega)
   simp only [e, sw, Int.reduceEq, if_true, if_false, yW, y1T, yg, yc, y1h hB, Option.bind_some, yJ hB]
   rfl
  ·simp [e, sw, yW, y1U, yg, yc]
  ·simp [e, sw, yW, y1D, yg, yc]
  ·simp [e, sw, yW, y1V]
  ·simp [e, sw, yW, y1W]
  ·have hA := vA hv (by omega)
   simp only [e, sw, Int.reduceEq, if_true, if_false, yW, y1X, rgd, y1h hA, Option.bind_some, yJ hA]
   by_cases hq : rg s.fRegs x.fA = 0
   ·simp only [hq, decide_true, if_true, Option.bind_some]
    rfl
   ·simp only [hq, decide_false, Bool.false_eq_true, if_false, Option.bind_some]
    rfl
  ·have hA := vA hv (by omega)
   have hB := vB hv (by omega)
   simp only [e, sw, Int.reduceEq, if_true, if_false, yW, y1Y, rgd, y1h hA, y1h hB, Option.bind_some, yJ hA, yJ hB]
   by_cases hq : rg s.fRegs x.fA < rg s.fRegs x.fB
   ·simp only [hq, decide_true, if_true, Option.bind_some]
    rfl
   ·simp only [hq, decide_false, Bool.false_eq_true, if_false, Option.bind_some]
    rfl
  ·have hA := vA hv (by omega)
   have hB := vB hv (by omega)
   simp only [e, sw, Int.reduceEq, if_true, if_false, yW, y28, yN, rgd, y1h hA, y1h hB, Option.bind_some, yJ hA, yJ hB]
   by_cases hq : rg s.fRegs x.fB ≠ 0
   ·simp only [ne_eq, hq, not_false_eq_true, decide_true, if_true, chk, Option.bind_some]
    rfl
   ·have hq' : rg s.fRegs x.fB = 0 := by omega
    simp only [ne_eq, hq', not_true_eq_false, decide_false, Bool.false_eq_true, if_false, Option.bind_some]
    rfl
  ·simp [e, sw, yW, y1E, yN]
   rfl
  ·simp [e, sw, yW, y1Z]
 ·have h' : y3R code s.fPc = false := by simpa using h
  simp only [h', Bool.false_eq_true, if_false, Option.bind_some, Bool.not_false, if_true]
end Go.Proofs.YtjdnejbngloieaaDoor
