/- A part of this claim's proof: models of functions, walks, plain laws. No conditions. -/
import Derived.Test.YtinchjigeakocaaP31a
namespace Go.Proofs.Ytinchjigeakocaa
open Go Go.RowKit Sep
set_option linter.all false
abbrev Fr := Sport_frame
abbrev Pt := Sport_Port
theorem drop_nth {α : Type} [Inhabited α] {l : List α} {v : Int} (h0 : 0 ≤ v) (h : v < l.length) : l.drop v.toNat = nth l v :: l.drop (v.toNat + 1) := by
 have h3 : v.toNat < l.length := by omega
 rw [← List.getElem_cons_drop h3, y4B (l := l) h0 h]
/-! ### slices.IndexFunc, slices.DeleteFunc -/
/-! ### the port -/
def sizes : List Fr → Int
 | [] => 0
 | x :: l => x.fSize + sizes l
structure PI (p : Pt) : Prop where
 slow : 1 ≤ p.fNumbers.fSlow ∧ p.fNumbers.fSlow ≤ 16
 delay : 0 ≤ p.fNumbers.fDelay ∧ p.fNumbers.fDelay ≤ 1000
 store : 0 ≤ p.fNumbers.fStore ∧ p.fNumbers.fStore ≤ 1073741824
 now : 0 ≤ p.fNow
 last : 0 ≤ p.fLast ∧ p.fLast ≤ 1000000000000
 sz : ∀ x ∈ p.fFrames, 1 ≤ x.fSize ∧ x.fSize ≤ 72
 len : p.fFrames.length ≤ 100000
def wait_ (t : Int) (l : List Fr) : List Fr := l.filter fun x => decide (x.fFin > t)
def endS (p : Pt) (t size : Int) : Int := max (t + p.fNumbers.fDelay) p.fLast + size * p.fNumbers.fSlow
def putS (p : Pt) (t size : Int) : Int × Int × Pt :=
 if size < 1 ∨ size > 72 ∨ t < p.fNow ∨ t > 1073741824 then (0, 2, p)
 else if sizes (wait_ t p.fFrames) + size > p.fNumbers.fStore then (0, 4, ⟨p.fNumbers, t, p.fLast, wait_ t p.fFrames⟩)
 else (endS p t size, 0, ⟨p.fNumbers, t, endS p t size, wait_ t p.fFrames ++ [⟨size, endS p t size⟩]⟩)
end Go.Proofs.Ytinchjigeakocaa
