/- A part of this claim's proof: where ways meet behind a loop over a function. No conditions. -/
import Derived.Test.YtcahmabkeaijdaaGreatZMat
set_option linter.all false
namespace Sep
open Go Go.RowKit
set_option linter.unusedSectionVars false
section
variable {P : Program} {n : Nat} {F : List Nat} {w₀ : World} {env : List (Nat × Value)} {L : List Asrt} {Q : Exit → Act → World → Prop}
theorem WC.ydq {G : Type} (D : G → Nat) (φ : G → Prop) (envI : G → List (Nat × Value)) (LI : G → List Asrt) {x y : Code}
  (k1 : @WC Rnd.base P n F w₀ (Exit.then (fun a w => ∃ g, φ g ∧ @SS (aft (D g)) n F w₀ (envI g) (LI g) a w) Q) x env L)
  (k2 : ∀ g, φ g → @WC (aft (D g)) P n F w₀ Q y (envI g) (LI g)) : @WC Rnd.base P n F w₀ Q (.seq x y) env L := by
 intro a w h
 refine wpIn_seq (Go.wpIn_mono (k1 a w h) ?_)
 intro e a' w' hq
 cases e with
 | normal => obtain ⟨g, hφ, hs⟩ := hq; exact k2 g hφ a' w' hs
 | _ => exact hq
theorem WX.midR {G : Type} {D : G → Nat} {φ : G → Prop} {envI : G → List (Nat × Value)} {LI : G → List Asrt} {M : List Asrt} (g : G) (hφ : φ g) (hr : Restr env (envI g)) (hL : Sel L (LI g) M) :
  @WX (aft (D g)) n F w₀ (Exit.then (fun a w => ∃ g, φ g ∧ @SS (aft (D g)) n F w₀ (envI g) (LI g) a w) Q) .normal env L :=
 fun _ _ h => ⟨g, hφ, (@SS.drop (aft (D g)) _ _ _ _ _ _ _ _ _ (@SS.restr (aft (D g)) _ _ _ _ _ _ _ _ h hr) hL)⟩
theorem WC.midR {G : Type} (D : G → Nat) (φ : G → Prop) (envI : G → List (Nat × Value)) (LI : G → List Asrt) {c : Code}
  (k1 : @WC Rnd.base P n F w₀ (Exit.then (fun a w => ∃ g, φ g ∧ @SS (aft (D g)) n F w₀ (envI g) (LI g) a w) Q) c env L)
  (k2 : ∀ g, φ g → @WX (aft (D g)) n F w₀ Q .normal (envI g) (LI g)) : @WC Rnd.base P n F w₀ Q c env L := by
 intro a w h
 refine Go.wpIn_mono (k1 a w h) ?_
 intro e a' w' hq
 cases e with
 | normal => obtain ⟨g, hφ, hs⟩ := hq; exact k2 g hφ a' w' hs
 | _ => exact hq
theorem WC.y8X {A1 A2 A3 A4 A5 : Type} (φ : Nat → A1 → A2 → A3 → A4 → A5 → Prop) (envI : Nat → A1 → A2 → A3 → A4 → A5 → List (Nat × Value)) (LI : Nat → A1 → A2 → A3 → A4 → A5 → List Asrt) {x y : Code}
  (k1 : @WC Rnd.base P n F w₀ (Exit.then (fun a w => ∃ g : Nat × A1 × A2 × A3 × A4 × A5, (φ g.1 g.2.1 g.2.2.1 g.2.2.2.1 g.2.2.2.2.1 g.2.2.2.2.2) ∧ @SS (aft g.1) n F w₀ (envI g.1 g.2.1 g.2.2.1 g.2.2.2.1 g.2.2.2.2.1 g.2.2.2.2.2) (LI g.1 g.2.1 g.2.2.1 g.2.2.2.1 g.2.2.2.2.1 g.2.2.2.2.2) a w) Q) x env L)
  (k2 : ∀ x0 x1 x2 x3 x4 x5, (φ x0 x1 x2 x3 x4 x5) → @WC (aft x0) P n F w₀ Q y (envI x0 x1 x2 x3 x4 x5) (LI x0 x1 x2 x3 x4 x5)) : @WC Rnd.base P n F w₀ Q (.seq x y) env L :=
 WC.ydq (G := Nat × A1 × A2 × A3 × A4 × A5) (fun g => g.1) (fun g => (φ g.1 g.2.1 g.2.2.1 g.2.2.2.1 g.2.2.2.2.1 g.2.2.2.2.2)) (fun g => (envI g.1 g.2.1 g.2.2.1 g.2.2.2.1 g.2.2.2.2.1 g.2.2.2.2.2)) (fun g => (LI g.1 g.2.1 g.2.2.1 g.2.2.2.1 g.2.2.2.2.1 g.2.2.2.2.2)) k1 (fun g h => k2 g.1 g.2.1 g.2.2.1 g.2.2.2.1 g.2.2.2.2.1 g.2.2.2.2.2 h)
end
end Sep
