/- A part of this claim's proof: models of functions, walks, plain laws. No conditions. -/
import Derived.Test.YtjdnejbngloieaaDoorP26b
namespace Go.Proofs.YtjdnejbngloieaaDoor
open Go Go.RowKit Sep
set_option linter.all false
/-! ### Valid -/
def allV (code : List Sapi_Ins) : Bool := code.all fun x => y1s x code.length
theorem allV_at {code : List Sapi_Ins} (h : allV code = true) {i : Int} (h0 : 0 ≤ i) (h1 : i < code.length) : y3R code i = true := by
 unfold y3R
 rw [decide_eq_true ⟨h0, h1⟩, Bool.true_and]
 exact List.all_eq_true.1 h _ (y7q h0 h1)
/-! ### Successors -/
def succ2 (a b : Int) : List Int := if a = b then [a] else if a < b then [a, b] else [b, a]
def y64 (code : List Sapi_Ins) (i : Int) : List Int :=
 if y3R code i then
  if (nth code i).fOp = 19 ∨ (nth code i).fOp = 25 then [] else if (nth code i).fOp = 20 then [(nth code i).fA]
  else if (nth code i).fOp = 21 then succ2 (i + 1) (nth code i).fB else if (nth code i).fOp = 22 then succ2 (i + 1) (nth code i).fC else [i + 1]
 else []
end Go.Proofs.YtjdnejbngloieaaDoor
