/- A part of this claim's proof: models of functions, walks, plain laws. No conditions. -/
import Derived.Test.YtjdnejbngloieaaDoorP26e
namespace Go.Proofs.YtjdnejbngloieaaDoor
open Go Go.RowKit Sep
set_option linter.all false
theorem awake_eq : y3C = some true := by kernel_rfl
def RB (r : S34) : Prop := (0 ≤ r.a0 ∧ r.a0 ≤ 255) ∧ (0 ≤ r.a1 ∧ r.a1 ≤ 255) ∧ (0 ≤ r.a2 ∧ r.a2 ≤ 255) ∧ (0 ≤ r.a3 ∧ r.a3 ≤ 255)
theorem rg_bd {r : S34} (h : RB r) (i : Int) : 0 ≤ rg r i ∧ rg r i ≤ 255 := by
 obtain ⟨h0, h1, h2, h3⟩ := h
 unfold rg nth
 match i.toNat with
 | 0 => exact h0
 | 1 => exact h1
 | 2 => exact h2
 | 3 => exact h3
 | n + 4 => simp
end Go.Proofs.YtjdnejbngloieaaDoor
