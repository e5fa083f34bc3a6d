/- A part of this claim's proof: models of functions, walks, plain laws. No conditions. -/
import Derived.Test.YtcahmabkeaijdaaGreatZIter
namespace Sep
open Go Go.RowKit
set_option linter.all false
/-! ### a scope that no goto leaves; a label -/
section
variable {P : Program} {n : Nat} {F : Fence} {Q : Exit → Act → World → Prop} {a : Act} {w : World}
theorem y5L {b : Frame} {k : List Item} {cs : List Frame} {c : Code} : step P (lone (b.atR a (.code (.scope c) :: k)) cs w) = .next (lone (b.atR a (.code c :: .inScope c :: k)) cs w) :=
 step_lone_go (by simp [stepG, stepG.exec, Frame.atR])
theorem ycj {b : Frame} {k : List Item} {cs : List Frame} {c : Code} : step P (lone (b.atR a (.inScope c :: k)) cs w) = .next (lone (b.atR a k) cs w) :=
 step_lone_go (by simp [stepG, stepG.exec, Frame.atR])
theorem ydv {c : Code} (h : c.wpIn F n P (Exit.noGoto Q) a w) : (Code.scope c).wpIn F n P Q a w := by
 intro b k cs hro hb hr
 have h0 : (lone (b.atR a (.code (.scope c) :: k)) cs w).fenced P F := fenced_calm hb hr rfl
 obtain ⟨e, a₁, w₁, hq, harr⟩ := h b (.inScope c :: k) cs hro hb hr
 cases e with
 | normal => exact ⟨.normal, a₁, w₁, hq, .head h0 y5L (StepsIn.trans harr (.one (fenced_calm hb hr rfl) ycj))⟩
 | exit id =>
  have hx : exitTo id (.inScope c :: k) = exitTo id k := by simp [exitTo]
  exact ⟨.exit id, a₁, w₁, hq, fun k' hk => .head h0 y5L (harr.1 k' (by rw [hx]; exact hk)),
   fun hr' hk => let ⟨k₁, h1, h2⟩ := harr.2 hr' (by rw [hx]; exact hk); ⟨k₁, h1, .head h0 y5L h2⟩⟩
 | goto l => exact hq.elim
 | ret => exact ⟨_, a₁, w₁, hq, .of_steps (.one h0 y5L) harr⟩
 | panic ch => exact ⟨_, a₁, w₁, hq, .of_steps (.one h0 y5L) harr⟩
 | outgrown => exact ⟨_, a₁, w₁, hq, .of_steps (.one h0 y5L) harr⟩
end
section
variable [Rnd]
variable {P : Program} {n : Nat} {F : List Nat} {w₀ : World} {Q : Exit → Act → World → Prop} {env : List (Nat × Value)} {L : List Asrt}
theorem WC.scope {c : Code} (k : WC P n F w₀ (Exit.noGoto Q) c env L) : WC P n F w₀ Q (.scope c) env L := fun a w h => ydv (k a w h)
theorem WC.label {l : Nat} (k : WX n F w₀ Q .normal env L) : WC P n F w₀ Q (.label l) env L := fun a w h => wpIn_label (k a w h)
theorem WX.yaZ (k : WX n F w₀ Q .ret env L) : WX n F w₀ (Exit.noGoto Q) .ret env L := k
end
end Sep
