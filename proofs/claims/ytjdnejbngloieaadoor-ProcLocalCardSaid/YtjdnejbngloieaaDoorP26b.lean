/- A part of this claim's proof: models of functions, walks, plain laws. No conditions. -/
import Derived.Test.YtjdnejbngloieaaDoorP26a
namespace Go.Proofs.YtjdnejbngloieaaDoor
open Go Go.RowKit Sep
set_option linter.all false
/-! ### what one tick does -/
def rg (r : S34) (i : Int) : Int := nth ([r.a0, r.a1, r.a2, r.a3] : List Int) i
def y3u (r : S34) (i v : Int) : S34 := ⟨nth (([r.a0, r.a1, r.a2, r.a3] : List Int).set i.toNat v) 0, nth (([r.a0, r.a1, r.a2, r.a3] : List Int).set i.toNat v) 1, nth (([r.a0, r.a1, r.a2, r.a3] : List Int).set i.toNat v) 2, nth (([r.a0, r.a1, r.a2, r.a3] : List Int).set i.toNat v) 3⟩
def cnt (first n : Int) : List Int := (List.range n.toNat).map fun (v : Nat) => u8 (first + u8 (v : Int))
def yy (x : Sapi_Ins) (s : Sproc_State) (mem : List Int) : Sproc_State × Sproc_Act :=
 if x.fOp = 1 then (if i64 ((if s.fLeft = 0 then x.fA else s.fLeft) - 1) ≠ 0 then (⟨i64 (i64 (s.fPc + 1) - 1), i64 ((if s.fLeft = 0 then x.fA else s.fLeft) - 1), s.fRegs⟩, ⟨0, 0, 0, []⟩) else (⟨i64 (s.fPc + 1), i64 ((if s.fLeft = 0 then x.fA else s.fLeft) - 1), s.fRegs⟩, ⟨0, 0, 0, []⟩))
 else if x.fOp = 2 then (⟨i64 (s.fPc + 1), s.fLeft, y3u s.fRegs x.fA (u8 x.fB)⟩, ⟨0, 0, 0, []⟩)
 else if x.fOp = 3 then (⟨i64 (s.fPc + 1), s.fLeft, y3u s.fRegs x.fA (u8 (rg s.fRegs x.fA + rg s.fRegs x.fB))⟩, ⟨0, 0, 0, []⟩)
 else if x.fOp = 4 then (⟨i64 (s.fPc + 1), s.fLeft, y3u s.fRegs x.fA (u8 (rg s.fRegs x.fA - rg s.fRegs x.fB))⟩, ⟨0, 0, 0, []⟩)
 else if x.fOp = 5 then (if i64 (x.fB + i64 (rg s.fRegs x.fC)) ≥ mem.length then (⟨i64 (s.fPc + 1), s.fLeft, s.fRegs⟩, ⟨15, 2, 0, []⟩) else (⟨i64 (s.fPc + 1), s.fLeft, y3u s.fRegs x.fA (nth mem (i64 (x.fB + i64 (rg s.fRegs x.fC))))⟩, ⟨0, 0, 0, []⟩))
 else if x.fOp = 6 then (if i64 (x.fB + i64 (rg s.fRegs x.fC)) ≥ mem.length then (⟨i64 (s.fPc + 1), s.fLeft, s.fRegs⟩, ⟨15, 2, 0, []⟩) else (⟨i64 (s.fPc + 1), s.fLeft, s.fRegs⟩, ⟨1, i64 (x.fB + i64 (rg s.fRegs x.fC)), i64 (rg s.fRegs x.fA), []⟩))
 else if x.fOp = 7 then (⟨i64 (s.fPc + 1), s.fLeft, s.fRegs⟩, ⟨2, x.fA, 0, cnt (rg s.fRegs x.fB) x.fC⟩)
 else if x.fOp = 14 then (⟨i64 (s.fPc + 1), s.fLeft, s.fRegs⟩, ⟨9, x.fA, 0, [rg s.fRegs x.fB]⟩)
 else if x.fOp = 16 then (⟨i64 (s.fPc + 1), s.fLeft, s.fRegs⟩, ⟨11, x.fA, 0, [rg s.fRegs x.fB]⟩)
 else if x.fOp ≤ 18 then (⟨i64 (s.fPc + 1), s.fLeft, s.fRegs⟩, ⟨x.fOp - 5, x.fA, 0, []⟩)
 else if x.fOp = 19 then (⟨i64 (s.fPc + 1), s.fLeft, s.fRegs⟩, ⟨14, 0, 0, []⟩)
 else if x.fOp = 20 then (⟨x.fA, s.fLeft, s.fRegs⟩, ⟨0, 0, 0, []⟩)
 else if x.fOp = 21 then (⟨if rg s.fRegs x.fA = 0 then x.fB else i64 (s.fPc + 1), s.fLeft, s.fRegs⟩, ⟨0, 0, 0, []⟩)
 else if x.fOp = 22 then (⟨if rg s.fRegs x.fA < rg s.fRegs x.fB then x.fC else i64 (s.fPc + 1), s.fLeft, s.fRegs⟩, ⟨0, 0, 0, []⟩)
 else if x.fOp = 23 then (if rg s.fRegs x.fB ≠ 0 then (⟨i64 (s.fPc + 1), s.fLeft, y3u s.fRegs x.fA (u8 (Int.tdiv (rg s.fRegs x.fA) (rg s.fRegs x.fB)))⟩, ⟨0, 0, 0, []⟩) else (⟨i64 (s.fPc + 1), s.fLeft, s.fRegs⟩, ⟨15, 4, 0, []⟩))
 else if x.fOp = 24 then (⟨i64 (s.fPc + 1), s.fLeft, s.fRegs⟩, ⟨15, 3, x.fA, []⟩)
 else (⟨i64 (i64 (s.fPc + 1) - 1), s.fLeft, s.fRegs⟩, ⟨16, 0, 0, []⟩)
/-! ### what a valid instruction's operands are -/
section
variable {x : Sapi_Ins} {size : Int}
theorem vop (h : y19 x size = true) : 1 ≤ x.fOp ∧ x.fOp ≤ 25 := by
 simp only [y19, Bool.and_eq_true, decide_eq_true_eq] at h; exact h.1
theorem vA (h : y19 x size = true) (e : x.fOp = 2 ∨ x.fOp = 3 ∨ x.fOp = 4 ∨ x.fOp = 5 ∨ x.fOp = 6 ∨ x.fOp = 21 ∨ x.fOp = 22 ∨ x.fOp = 23) : 0 ≤ x.fA ∧ x.fA < 4 := by
 rcases e with e | e | e | e | e | e | e | e <;> simp [y19, e, yX, nth, fits, y34] at h <;> omega
theorem vB (h : y19 x size = true) (e : x.fOp = 3 ∨ x.fOp = 4 ∨ x.fOp = 7 ∨ x.fOp = 8 ∨ x.fOp = 14 ∨ x.fOp = 15 ∨ x.fOp = 16 ∨ x.fOp = 17 ∨ x.fOp = 22 ∨ x.fOp = 23) : 0 ≤ x.fB ∧ x.fB < 4 := by
 rcases e with e | e | e | e | e | e | e | e | e | e <;> simp [y19, e, yX, nth, fits, y34] at h <;> omega
theorem vC (h : y19 x size = true) (e : x.fOp = 5 ∨ x.fOp = 6 ∨ x.fOp = 8) : 0 ≤ x.fC ∧ x.fC < 4 := by
 rcases e with e | e | e <;> simp [y19, e, yX, nth, fits, y34] at h <;> omega
theorem vM (h : y19 x size = true) (e : x.fOp = 5 ∨ x.fOp = 6) : 0 ≤ x.fB ∧ x.fB ≤ 4095 := by
 rcases e with e | e <;> simp [y19, e, yX, nth, fits, y34] at h <;> omega
theorem vN (h : y19 x size = true) (e : x.fOp = 7) : 1 ≤ x.fC ∧ x.fC ≤ 64 := by
 simp [y19, e, yX, nth, fits, y34] at h; omega
theorem vW (h : y19 x size = true) (e : x.fOp = 1) : 1 ≤ x.fA ∧ x.fA ≤ 2000 := by
 simp [y19, e, yX, nth, fits, y34] at h; omega
end
/-! ### count -/
theorem y5b {n first : Int} {k : List Int → Option (List Int)} (hn : 0 ≤ n ∧ n ≤ 64) : ∀ (m : Nat) (out : List Int) (v : Int), 0 ≤ v → v ≤ n → out.length = n.toNat → out.take v.toNat = (cnt first n).take v.toNat → n < m + v →
  y1e n first k m out v = k (cnt first n)
 | 0, _, v, _, _, _, _, _ => by omega
 | m + 1, out, v, h0, h1, hl, ht, hm => by
  rw [y1e]
  have hcl : (cnt first n).length = n.toNat := by simp [cnt]
  by_cases h : v < n
  ·rw [if_pos (by simp; omega), yt ⟨h0, by omega⟩, y14 (by omega)]
   refine y5b hn m _ (v + 1) (by omega) (by omega) (by simp [hl]) ?_ (by omega)
   rw [show (v + 1).toNat = v.toNat + 1 by omega, List.take_add_one, List.take_add_one, List.take_set_of_le (Nat.le_refl _), ht]
   congr 1
   rw [List.getElem?_set_self (by omega)]
   simp only [cnt, List.getElem?_map]
   rw [List.getElem?_range (by omega)]
   simp only [Option.map_some, Option.toList_some]
   rw [show ((v.toNat : Nat) : Int) = v by omega]
  ·rw [if_neg (by simp; omega)]
   have e : v.toNat = n.toNat := by omega
   rw [e, List.take_of_length_le (by omega), List.take_of_length_le (by omega)] at ht
   rw [ht]
theorem count_eq {n first : Int} (hn : 0 ≤ n ∧ n ≤ 64) : y2r first n = some (cnt first n) := by
 unfold y2r jp1
 rw [yt (by omega)]
 dsimp only
 rw [y5b hn _ _ _ (by omega) (by omega) (by simp) (by simp) (by rw [y4I]; omega)]
theorem rgd (r : S34) (i : Int) : nth ([r.a0, r.a1, r.a2, r.a3] : List Int) i = rg r i := rfl
theorem y1g {e : Sproc_execution} {i : Int} (h : 0 ≤ i ∧ i < 4) : yc e i = some () := if_pos h
theorem y6b {code : List Sapi_Ins} {s : Sproc_State} {mem : List Int} (hc : code.length ≤ 200) (hm : mem.length ≤ 5000) (hr : ∀ i, 0 ≤ rg s.fRegs i ∧ rg s.fRegs i ≤ 255) :
  y12 code s mem = some (if y2h code s.fPc then yy (nth code s.fPc) s mem else (s, ⟨15, 5, 0, []⟩)) := by
 unfold y12
 rw [at_eq hc]
 unfold atP
 by_cases h : y2h code s.fPc = true
 ·simp only [h, if_true, Option.bind_some, Bool.not_true, Bool.false_eq_true, if_false]
  unfold y2h at h
  simp only [Bool.and_eq_true, decide_eq_true_eq] at h
  obtain ⟨hp, hv⟩ := h
  generalize nth code s.fPc = x at hv ⊢
  have ho := vop hv
  unfold jp15
  dsimp only
  rw [yt (by omega)]
  have hcase : x.fOp = 1 ∨ x.fOp = 2 ∨ x.fOp = 3 ∨ x.fOp = 4 ∨ x.fOp = 5 ∨ x.fOp = 6 ∨ x.fOp = 7 ∨ x.fOp = 8 ∨ x.fOp = 9 ∨ x.fOp = 10 ∨ x.fOp = 11 ∨ x.fOp = 12 ∨ x.fOp = 13 ∨ x.fOp = 14 ∨ x.fOp = 15 ∨ x.fOp = 16 ∨ x.fOp = 17 ∨ x.fOp = 18 ∨ x.fOp = 19 ∨ x.fOp = 20 ∨ x.fOp = 21 ∨ x.fOp = 22 ∨ x.fOp = 23 ∨ x.fOp = 24 ∨ x.fOp = 25 := by omega
  rcases hcase with e | e | e | e | e | e | e | e | e | e | e | e | e | e | e | e | e | e | e | e | e | e | e | e | e
  ·simp only [e, sw, Int.reduceEq, if_true, if_false, yy, y1A, jp1]
   by_cases h1 : s.fLeft = 0 <;> simp only [h1, decide_true, decide_false, if_true, if_false, Bool.false_eq_true, Option.bind_some] <;> split <;> simp_all
  ·have hA := vA hv (by omega)
   simp only [e, sw, Int.reduceEq, if_true, if_false, yy, y1P, y1g hA, Option.bind_some, yt hA]
   rfl
  ·have hA := vA hv (by omega)
   have hB := vB hv (by omega)
   simp only [e, sw, Int.reduceEq, if_true, if_false, yy, y1Q, y1g hA, y1g hB, Option.bind_some, yt hA, yt hB]
   rfl
  ·have hA := vA hv (by omega)
   have hB := vB hv (by omega)
   simp only [e, sw, Int.reduceEq, if_true, if_false, yy, y1R, y1g hA, y1g hB, Option.bind_some, yt hA, yt hB]
   rfl
  ·have hA := vA hv (by omega)
   have hC := vC hv (by omega)
   have hM := vM hv (by omega)
   have hR := hr x.fC
   have hi : 0 ≤ i64 (x.fB + i64 (rg s.fRegs x.fC)) := by rw [y14 (x := rg s.fRegs x.fC) (by omega), y14 (by omega)]; omega
   simp only [e, sw, Int.reduceEq, if_true, if_false, yy, y1B, yU, yz, rgd, y1g hA, y1g hC, Option.bind_some, yt hA, yt hC]
   by_cases hq : i64 (x.fB + i64 (rg s.fRegs x.fC)) ≥ mem.length
   ·simp only [hq, decide_true, if_true, Option.bind_some, Bool.false_eq_true, if_false]
    rfl
   ·simp only [hq, decide_false, if_true, Option.bind_some, Bool.false_eq_true, if_false, y1g hA, yt hA]
    rw [yt (show 0 ≤ i64 (x.fB + i64 (rg s.fRegs x.fC)) ∧ i64 (x.fB + i64 (rg s.fRegs x.fC)) < mem.length by omega)]
    rfl
  ·have hA := vA hv (by omega)
   have hC := vC hv (by omega)
   simp only [e, sw, Int.reduceEq, if_true, if_false, yy, y1r, yU, yz, rgd, y1g hA, y1g hC, Option.bind_some, yt hA, yt hC]
   by_cases hq : i64 (x.fB + i64 (rg s.fRegs x.fC)) ≥ mem.length
   ·simp only [hq, decide_true, if_true, Option.bind_some, Bool.false_eq_true, if_false]
    rfl
   ·simp only [hq, decide_false, if_true, Option.bind_some, Bool.false_eq_true, if_false, y1g hA, yt hA]
  ·have hB := vB hv (by omega)
   have hN := vN hv (by omega)
   simp only [e, sw, Int.reduceEq, if_true, if_false, yy, y1C, y8, y1g hB, Option.bind_some, yt hB]
   rw [count_eq (by omega)]
   rfl
  ·simp [e, sw, yy, y1D, y8]
  ·simp [e, sw, yy, y1E, y8]
  ·simp [e, sw, yy, y1j, y8]
  ·simp [e, sw, yy, y1s, y8]
  ·simp [e, sw, yy, y1t, y8]
  ·simp [e, sw, yy, y1u, y8]
  ·have hB := vB hv (by omega)
   simp only [e, sw, Int.reduceEq, if_true, if_false, yy, y1S, y8, y1g hB, Option.bind_some, yt hB]
   rfl
  ·simp [e, sw, yy, y1T, y8]
  ·have hB := vB hv (by omega)
   simp only [e, sw, Int.reduceEq, if_true, if_false, yy, y1F, y8, y1g hB, Option.bind_some, yt hB]
   rfl
  ·simp [e, sw, yy, y1G, y8]
  ·simp [e, sw, yy, y1v, y8]
  ·simp [e, sw, yy, y1H]
  ·simp [e, sw, yy, y1I]
  ·have hA := vA hv (by omega)
   simp only [e, sw, Int.reduceEq, if_true, if_false, yy, y1J, rgd, y1g hA, Option.bind_some, yt hA]
   by_cases hq : rg s.fRegs x.fA = 0
   ·simp only [hq, decide_true, if_true, Option.bind_some]
    rfl
   ·simp only [hq, decide_false, Bool.false_eq_true, if_false, Option.bind_some]
    rfl
  ·have hA := vA hv (by omega)
   have hB := vB hv (by omega)
   simp only [e, sw, Int.reduceEq, if_true, if_false, yy, y1K, rgd, y1g hA, y1g hB, Option.bind_some, yt hA, yt hB]
   by_cases hq : rg s.fRegs x.fA < rg s.fRegs x.fB
   ·simp only [hq, decide_true, if_true, Option.bind_some]
    rfl
   ·simp only [hq, decide_false, Bool.false_eq_true, if_false, Option.bind_some]
    rfl
  ·have hA := vA hv (by omega)
   have hB := vB hv (by omega)
   simp only [e, sw, Int.reduceEq, if_true, if_false, yy, y1U, yz, rgd, y1g hA, y1g hB, Option.bind_some, yt hA, yt hB]
   by_cases hq : rg s.fRegs x.fB ≠ 0
   ·simp only [ne_eq, hq, not_false_eq_true, decide_true, if_true, chk, Option.bind_some]
    rfl
   ·have hq' : rg s.fRegs x.fB = 0 := by omega
    simp only [ne_eq, hq', not_true_eq_false, decide_false, Bool.false_eq_true, if_false, Option.bind_some]
    rfl
  ·simp [e, sw, yy, y1w, yz]
   rfl
  ·simp [e, sw, yy, y1L]
 ·have h' : y2h code s.fPc = false := by simpa using h
  simp only [h', Bool.false_eq_true, if_false, Option.bind_some, Bool.not_false, if_true]
end Go.Proofs.YtjdnejbngloieaaDoor
