/- A part of this claim's proof: models of functions, walks, plain laws. No conditions. -/
import Derived.Test.YtjdnejbngloieaaDoorWProcPaths
import Derived.Test.YtjdnejbngloieaaDoorP26s
namespace Go.Proofs.YtjdnejbngloieaaDoor
open Go Go.RowKit Sep
set_option linter.all false
theorem y6U {code : List Sapi_Ins} {i : Int} : y2g code i = some true := by
 unfold y2g
 by_cases hc : code.length ≤ 24
 ·have hp : y2O code i = some true := by
   unfold y2O
   obtain ⟨v, b, e, _⟩ := y5O hc i
   have hs := y3q code i
   rw [y7q hc, e, Option.bind_some, Option.bind_some, y7e (by omega), Option.bind_some, y6M (by omega), Option.bind_some, if_pos (by simp), y7D (by omega), Option.bind_some, y69 (by omega), Option.bind_some, y7o (by omega)]
   simp
  rw [if_neg (by simp; omega), LentV_eq (by omega), Option.bind_some, hp, Option.bind_some, if_pos rfl, y7p (by omega), Option.bind_some, Option.bind_some, if_pos rfl, y7g]
  rfl
 ·rw [if_pos (by simp; omega), y7g]; rfl
end Go.Proofs.YtjdnejbngloieaaDoor
