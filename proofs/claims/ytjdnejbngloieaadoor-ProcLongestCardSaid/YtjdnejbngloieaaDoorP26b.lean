/- A part of this claim's proof: models of functions, walks, plain laws. No conditions. -/
import Derived.Test.YtjdnejbngloieaaDoorP26a
namespace Go.Proofs.YtjdnejbngloieaaDoor
open Go Go.RowKit Sep
set_option linter.all false
/-! ### what one tick does -/
def rg (r : S34) (i : Int) : Int := nth ([r.a0, r.a1, r.a2, r.a3] : List Int) i
def y3S (r : S34) (i v : Int) : S34 := ⟨nth (([r.a0, r.a1, r.a2, r.a3] : List Int).set i.toNat v) 0, nth (([r.a0, r.a1, r.a2, r.a3] : List Int).set i.toNat v) 1, nth (([r.a0, r.a1, r.a2, r.a3] : List Int).set i.toNat v) 2, nth (([r.a0, r.a1, r.a2, r.a3] : List Int).set i.toNat v) 3⟩
def cnt (first n : Int) : List Int := (List.range n.toNat).map fun (v : Nat) => u8 (first + u8 (v : Int))
def yD (x : Sapi_Ins) (s : Sproc_State) (mem : List Int) : Sproc_State × Sproc_Act :=
 if x.fOp = 1 then (if i64 ((if s.fLeft = 0 then x.fA else s.fLeft) - 1) ≠ 0 then (⟨i64 (i64 (s.fPc + 1) - 1), i64 ((if s.fLeft = 0 then x.fA else s.fLeft) - 1), s.fRegs⟩, ⟨0, 0, 0, []⟩) else (⟨i64 (s.fPc + 1), i64 ((if s.fLeft = 0 then x.fA else s.fLeft) - 1), s.fRegs⟩, ⟨0, 0, 0, []⟩))
 else if x.fOp = 2 then (⟨i64 (s.fPc + 1), s.fLeft, y3S s.fRegs x.fA (u8 x.fB)⟩, ⟨0, 0, 0, []⟩)
 else if x.fOp = 3 then (⟨i64 (s.fPc + 1), s.fLeft, y3S s.fRegs x.fA (u8 (rg s.fRegs x.fA + rg s.fRegs x.fB))⟩, ⟨0, 0, 0, []⟩)
 else if x.fOp = 4 then (⟨i64 (s.fPc + 1), s.fLeft, y3S s.fRegs x.fA (u8 (rg s.fRegs x.fA - rg s.fRegs x.fB))⟩, ⟨0, 0, 0, []⟩)
 else if x.fOp = 5 then (if i64 (x.fB + i64 (rg s.fRegs x.fC)) ≥ mem.length then (⟨i64 (s.fPc + 1), s.fLeft, s.fRegs⟩, ⟨15, 2, 0, []⟩) else (⟨i64 (s.fPc + 1), s.fLeft, y3S s.fRegs x.fA (nth mem (i64 (x.fB + i64 (rg s.fRegs x.fC))))⟩, ⟨0, 0, 0, []⟩))
 else if x.fOp = 6 then (if i64 (x.fB + i64 (rg s.fRegs x.fC)) ≥ mem.length then (⟨i64 (s.fPc + 1), s.fLeft, s.fRegs⟩, ⟨15, 2, 0, []⟩) else (⟨i64 (s.fPc + 1), s.fLeft, s.fRegs⟩, ⟨1, i64 (x.fB + i64 (rg s.fRegs x.fC)), i64 (rg s.fRegs x.fA), []⟩))
 else if x.fOp = 7 then (⟨i64 (s.fPc + 1), s.fLeft, s.fRegs⟩, ⟨2, x.fA, 0, cnt (rg s.fRegs x.fB) x.fC⟩)
 else if x.fOp = 14 then (⟨i64 (s.fPc + 1), s.fLeft, s.fRegs⟩, ⟨9, x.fA, 0, [rg s.fRegs x.fB]⟩)
 else if x.fOp = 16 then (⟨i64 (s.fPc + 1), s.fLeft, s.fRegs⟩, ⟨11, x.fA, 0, [rg s.fRegs x.fB]⟩)
 else if x.fOp ≤ 18 then (⟨i64 (s.fPc + 1), s.fLeft, s.fRegs⟩, ⟨x.fOp - 5, x.fA, 0, []⟩)
 else if x.fOp = 19 then (⟨i64 (s.fPc + 1), s.fLeft, s.fRegs⟩, ⟨14, 0, 0, []⟩)
 else if x.fOp = 20 then (⟨x.fA, s.fLeft, s.fRegs⟩, ⟨0, 0, 0, []⟩)
 else if x.fOp = 21 then (⟨if rg s.fRegs x.fA = 0 then x.fB else i64 (s.fPc + 1), s.fLeft, s.fRegs⟩, ⟨0, 0, 0, []⟩)
 else if x.fOp = 22 then (⟨if rg s.fRegs x.fA < rg s.fRegs x.fB then x.fC else i64 (s.fPc + 1), s.fLeft, s.fRegs⟩, ⟨0, 0, 0, []⟩)
 else if x.fOp = 23 then (if rg s.fRegs x.fB ≠ 0 then (⟨i64 (s.fPc + 1), s.fLeft, y3S s.fRegs x.fA (u8 (Int.tdiv (rg s.fRegs x.fA) (rg s.fRegs x.fB)))⟩, ⟨0, 0, 0, []⟩) else (⟨i64 (s.fPc + 1), s.fLeft, s.fRegs⟩, ⟨15, 4, 0, []⟩))
 else if x.fOp = 24 then (⟨i64 (s.fPc + 1), s.fLeft, s.fRegs⟩, ⟨15, 3, x.fA, []⟩)
 else (⟨i64 (i64 (s.fPc + 1) - 1), s.fLeft, s.fRegs⟩, ⟨16, 0, 0, []⟩)
/-! ### what a valid instruction's operands are -/
section
variable {x : Sapi_Ins} {size : Int}
theorem vop (h : y1h x size = true) : 1 ≤ x.fOp ∧ x.fOp ≤ 25 := by
 simp only [y1h, Bool.and_eq_true, decide_eq_true_eq] at h; exact h.1
theorem vA (h : y1h x size = true) (e : x.fOp = 2 ∨ x.fOp = 3 ∨ x.fOp = 4 ∨ x.fOp = 5 ∨ x.fOp = 6 ∨ x.fOp = 21 ∨ x.fOp = 22 ∨ x.fOp = 23) : 0 ≤ x.fA ∧ x.fA < 4 := by
 rcases e with e | e | e | e | e | e | e | e <;> simp [y1h, e, y17, nth, fits, y3D] at h <;> omega
theorem vB (h : y1h x size = true) (e : x.fOp = 3 ∨ x.fOp = 4 ∨ x.fOp = 7 ∨ x.fOp = 8 ∨ x.fOp = 14 ∨ x.fOp = 15 ∨ x.fOp = 16 ∨ x.fOp = 17 ∨ x.fOp = 22 ∨ x.fOp = 23) : 0 ≤ x.fB ∧ x.fB < 4 := by
 rcases e with e | e | e | e | e | e | e | e | e | e <;> simp [y1h, e, y17, nth, fits, y3D] at h <;> omega
theorem vC (h : y1h x size = true) (e : x.fOp = 5 ∨ x.fOp = 6 ∨ x.fOp = 8) : 0 ≤ x.fC ∧ x.fC < 4 := by
 rcases e with e | e | e <;> simp [y1h, e, y17, nth, fits, y3D] at h <;> omega
theorem vM (h : y1h x size = true) (e : x.fOp = 5 ∨ x.fOp = 6) : 0 ≤ x.fB ∧ x.fB ≤ 4095 := by
 rcases e with e | e <;> simp [y1h, e, y17, nth, fits, y3D] at h <;> omega
theorem vN (h : y1h x size = true) (e : x.fOp = 7) : 1 ≤ x.fC ∧ x.fC ≤ 64 := by
 simp [y1h, e, y17, nth, fits, y3D] at h; omega
theorem vW (h : y1h x size = true) (e : x.fOp = 1) : 1 ≤ x.fA ∧ x.fA ≤ 2000 := by
 simp [y1h, e, y17, nth, fits, y3D] at h; omega
theorem vJ (h : y1h x size = true) : (x.fOp = 20 → 0 ≤ x.fA ∧ x.fA < size) ∧ (x.fOp = 21 → 0 ≤ x.fB ∧ x.fB < size) ∧ (x.fOp = 22 → 0 ≤ x.fC ∧ x.fC < size) := by
 refine ⟨fun e => ?_, fun e => ?_, fun e => ?_⟩ <;> simp [y1h, e, y17, nth, fits, y3D] at h <;> omega
end
/-! ### count -/
theorem y6D {n first : Int} {k : List Int → Option (List Int)} (hn : 0 ≤ n ∧ n ≤ 64) : ∀ (m : Nat) (out : List Int) (v : Int), 0 ≤ v → v ≤ n → out.length = n.toNat → out.take v.toNat = (cnt first n).take v.toNat → n < m + v →
  y1A n first k m out v = k (cnt first n)
 | 0, _, v, _, _, _, _, _ => by omega
 | m + 1, out, v, h0, h1, hl, ht, hm => by
  rw [y1A]
  have hcl : (cnt first n).length = n.toNat := by simp [cnt]
  by_cases h : v < n
  ·rw [if_pos (by simp; omega), yv ⟨h0, by omega⟩, y1f (by omega)]
   refine y6D hn m _ (v + 1) (by omega) (by omega) (by simp [hl]) ?_ (by omega)
   rw [show (v + 1).toNat = v.toNat + 1 by omega, List.take_add_one, List.take_add_one, List.take_set_of_le (Nat.le_refl _), ht]
   congr 1
   rw [List.getElem?_set_self (by omega)]
   simp only [cnt, List.getElem?_map]
   rw [List.getElem?_range (by omega)]
   simp only [Option.map_some, Option.toList_some]
   rw [show ((v.toNat : Nat) : Int) = v by omega]
  ·rw [if_neg (by simp; omega)]
   have e : v.toNat = n.toNat := by omega
   rw [e, List.take_of_length_le (by omega), List.take_of_length_le (by omega)] at ht
   rw [ht]
theorem count_eq {n first : Int} (hn : 0 ≤ n ∧ n ≤ 64) : y2H first n = some (cnt first n) := by
 unfold y2H jp1
 rw [yv (by omega)]
 dsimp only
 rw [y6D hn _ _ _ (by omega) (by omega) (by simp) (by simp) (by rw [y48]; omega)]
theorem rgd (r : S34) (i : Int) : nth ([r.a0, r.a1, r.a2, r.a3] : List Int) i = rg r i := rfl
theorem r4 {x : Int} {P : Prop} (h : 0 ≤ x ∧ x < 4) {R : Type} {k : Option R} : chk (0 ≤ x ∧ x < 4) k = k := yv h
end Go.Proofs.YtjdnejbngloieaaDoor
