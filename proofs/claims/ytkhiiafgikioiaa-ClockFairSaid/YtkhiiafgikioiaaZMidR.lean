/- A part of this claim's proof: where ways meet behind a loop over a function. No conditions beyond those in each theorem's statement. -/
import Derived.Test.YtkhiiafgikioiaaZMat
set_option linter.all false
namespace Sep
open Go Go.RowKit
set_option linter.unusedSectionVars false
section
variable {P : Program} {n : Nat} {F : List Nat} {w₀ : World} {env : List (Nat × Value)} {L : List Asrt} {Q : Exit → Act → World → Prop}
theorem WC.seqMidR {G : Type} (D : G → Nat) (φ : G → Prop) (envI : G → List (Nat × Value)) (LI : G → List Asrt) {x y : Code}
    (k1 : @WC Rnd.base P n F w₀ (Exit.then (fun a w => ∃ g, φ g ∧ @SS (aft (D g)) n F w₀ (envI g) (LI g) a w) Q) x env L)
    (k2 : ∀ g, φ g → @WC (aft (D g)) P n F w₀ Q y (envI g) (LI g)) : @WC Rnd.base P n F w₀ Q (.seq x y) env L := by
  intro a w h
  refine wpIn_seq (Go.wpIn_mono (k1 a w h) ?_)
  intro e a' w' hq
  cases e with
  | normal => obtain ⟨g, hφ, hs⟩ := hq; exact k2 g hφ a' w' hs
  | _ => exact hq
theorem WX.midR {G : Type} {D : G → Nat} {φ : G → Prop} {envI : G → List (Nat × Value)} {LI : G → List Asrt} {M : List Asrt} (g : G) (hφ : φ g) (hr : Restr env (envI g)) (hL : Sel L (LI g) M) :
    @WX (aft (D g)) n F w₀ (Exit.then (fun a w => ∃ g, φ g ∧ @SS (aft (D g)) n F w₀ (envI g) (LI g) a w) Q) .normal env L :=
  fun _ _ h => ⟨g, hφ, (@SS.drop (aft (D g)) _ _ _ _ _ _ _ _ _ (@SS.restr (aft (D g)) _ _ _ _ _ _ _ _ h hr) hL)⟩
theorem WC.midR {G : Type} (D : G → Nat) (φ : G → Prop) (envI : G → List (Nat × Value)) (LI : G → List Asrt) {c : Code}
    (k1 : @WC Rnd.base P n F w₀ (Exit.then (fun a w => ∃ g, φ g ∧ @SS (aft (D g)) n F w₀ (envI g) (LI g) a w) Q) c env L)
    (k2 : ∀ g, φ g → @WX (aft (D g)) n F w₀ Q .normal (envI g) (LI g)) : @WC Rnd.base P n F w₀ Q c env L := by
  intro a w h
  refine Go.wpIn_mono (k1 a w h) ?_
  intro e a' w' hq
  cases e with
  | normal => obtain ⟨g, hφ, hs⟩ := hq; exact k2 g hφ a' w' hs
  | _ => exact hq
end
end Sep
