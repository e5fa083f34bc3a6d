/- A part of this claim's proof: models of functions, walks, plain laws. No conditions. -/
import Derived.Test.YtjdnejbngloieaaDoorW26pd
import Derived.Test.YtjdnejbngloieaaDoorZLoops
namespace Go.Proofs.YtjdnejbngloieaaDoor
open Go Go.RowKit Sep
set_option linter.all false
theorem jp0_ex {R : Type} {K : Option R} {F : Option R → Option R} {P : Option R → Prop} (h : ∀ k : Option R, k = K → P (F k)) : P (jp0 K F) := h K rfl
theorem y5L {R A0 : Type} {K : A0 → Option R} {F : (A0 → Option R) → Option R} {P : Option R → Prop} (h : ∀ k : A0 → Option R, (∀ x0, k x0 = K x0) → P (F k)) : P (jp1 K F) := h K fun _ => rfl
/-! ### validity -/
def fits (o x size : Int) : Bool :=
 if o = 1 then decide (1 ≤ x ∧ x ≤ 2000) else if o = 2 then decide (0 ≤ x ∧ x ≤ 3) else if o = 3 then decide (0 ≤ x ∧ x ≤ 255) else if o = 4 then decide (0 ≤ x ∧ x ≤ 4095)
 else if o = 5 then decide (1 ≤ x ∧ x ≤ 64) else if o = 6 then decide (0 ≤ x) else if o = 7 then decide (0 ≤ x ∧ x ≤ size - 1) else decide (0 ≤ x ∧ x ≤ 0)
theorem y6B (o x : Int) {size : Int} (hs : 0 ≤ size ∧ size ≤ 9223372036854775807) : y1z o x size = some (fits o x size) := by
 unfold y1z jp2 fits
 rw [yU (x := size - 1) (by omega)]
 repeat' split
 all_goals simp_all <;> omega
def y3E (x : Sapi_Ins) : List Int := [x.fA, x.fB, x.fC]
def y2P (x : Sapi_Ins) (size : Int) : Bool :=
 decide (1 ≤ x.fOp ∧ x.fOp ≤ 25) && ((nth y18 x.fOp).zip (y3E x)).all fun p => fits p.1 p.2 size
theorem y5U : i64 (0 + 1) = 1 := yU (by omega)
theorem y4o : i64 (1 + 1) = 2 := yU (by omega)
theorem y5V : i64 (2 + 1) = 3 := yU (by omega)
theorem y8a {x : Sapi_Ins} {size : Int} (hs : 0 ≤ size ∧ size ≤ 9223372036854775807) {l : List Int} (hl : nth y18 x.fOp = l) (h3 : l.length ≤ 3) {k : Option Bool} {n : Nat} (hn : 4 ≤ n) (hk : k = some true) :
  y10 x size k n 0 = some ((l.zip (y3E x)).all fun p => fits p.1 p.2 size) := by
 obtain ⟨n, rfl⟩ : ∃ m, n = m + 4 := ⟨n - 4, by omega⟩
 match l, h3 with
 | [], _ => simp [y10, hl, hk]
 | [a], _ =>
  simp only [y10, hl, y6B _ _ hs, y3E, y5U, y4o, y5V]
  cases h : fits a x.fA size <;> simp [nth, chk, hk, h]
 | [a, b], _ =>
  simp only [y10, hl, y6B _ _ hs, y3E, y5U, y4o, y5V]
  cases h : fits a x.fA size <;> cases h' : fits b x.fB size <;> simp [nth, chk, hk, h, h']
 | [a, b, c], _ =>
  simp only [y10, hl, y6B _ _ hs, y3E, y5U, y4o, y5V]
  cases h : fits a x.fA size <;> cases h' : fits b x.fB size <;> cases h'' : fits c x.fC size <;> simp [nth, chk, hk, h, h', h'']
theorem tab3 : ∀ (i : Nat), i < 26 → (nth y18 (i : Int)).length ≤ 3 := by decide
theorem y7c (x : Sapi_Ins) {size : Int} (hs : 0 ≤ size ∧ size ≤ 9223372036854775807) : y2i x size = some (y2P x size) := by
 unfold y2i y2P jp0
 by_cases h : 1 ≤ x.fOp ∧ x.fOp ≤ 25
 ·have h0 : ¬ x.fOp < 1 := by omega
  have h1 : ¬ 25 < x.fOp := by omega
  have h2 : (nth y18 x.fOp).length ≤ 3 := by
   have := tab3 x.fOp.toNat (by omega)
   rwa [show ((x.fOp.toNat : Nat) : Int) = x.fOp by omega] at this
  simp only [gt_iff_lt, h0, h1, decide_false, Bool.or_self, Bool.false_eq_true, if_false, h, and_self, decide_true, Bool.true_and]
  rw [yv (by omega), y8a hs rfl h2 (by rw [y1D]; omega) rfl]
 ·rw [if_pos (by simp; omega), decide_eq_false h]; rfl
/-! ### at -/
def y3k (code : List Sapi_Ins) (i : Int) : Bool := decide (0 ≤ i ∧ i < code.length) && y2P (nth code i) code.length
def atP (code : List Sapi_Ins) (i : Int) : Sapi_Ins × Bool := if y3k code i then (nth code i, true) else (⟨0, 0, 0, 0⟩, false)
theorem at_eq {code : List Sapi_Ins} (hc : code.length ≤ 200) (i : Int) : y3u code i = some (atP code i) := by
 unfold y3u atP y3k
 by_cases h : 0 ≤ i ∧ i < code.length
 ·have h0 : ¬ i < 0 := by omega
  have h1 : ¬ (code.length : Int) ≤ i := by omega
  simp only [ge_iff_le, h0, h1, decide_false, Bool.or_self, Bool.false_eq_true, if_false, h, and_self, decide_true, Bool.true_and]
  rw [yv trivial, y7c _ (by omega)]
  cases hv : y2P (nth code i) code.length <;> simp [hv]
  rw [yv trivial]
 ·rw [if_pos (by simp; omega), decide_eq_false h]; rfl
end Go.Proofs.YtjdnejbngloieaaDoor
