/- A part of this claim's proof: models of functions, walks, plain laws. No conditions. -/
import Derived.Test.YtcahmabkeaijdaaGreatZFast
namespace Sep
open Go Go.RowKit
set_option linter.all false
section unroll
variable [Rnd] {P : Program} {n : Nat} {F : List Nat} {w₀ : World} {Q : Exit → Act → World → Prop} {env : List (Nat × Value)} {L : List Asrt} {c : Code}
def y7g (P : Program) (Q : Exit → Act → World → Prop) (c : Code) (a : Act) (w : World) : Prop :=
 ∀ (b : Frame) (k : List Item) (cs : List Frame), b.roundOf = FN.round → FN.fn b.fn → FN.room (cs.length + 1 + 0) →
  ∃ e a' w', Q e a' w' ∧ ArrivesIn (Machine.fenced P FN) P (lone (b.atR a (.code c :: .inLoop c :: k)) cs w) b k cs e a' w'
theorem y7g.of (h : WC P n F w₀ (Exit.then (y7g P Q c) Q) c env L) : ∀ a w, SS n F w₀ env L a w → y7g P Q c a w := by
 intro a w hs b k cs hro hb hrm
 obtain ⟨e, a₁, w₁, hq, harr⟩ := h a w hs b (.inLoop c :: k) cs hro hb hrm
 cases e with
 | normal =>
  have hq : y7g P Q c a₁ w₁ := hq
  obtain ⟨e₂, a₂, w₂, hq₂, harr₂⟩ := hq b k cs hro hb hrm
  exact ⟨e₂, a₂, w₂, hq₂, .of_steps (StepsIn.trans harr (.one (fenced_calm hb hrm rfl) stepR_inLoop)) harr₂⟩
 | exit id => exact ⟨_, a₁, w₁, hq, .pass (x := .inLoop c) rfl (fun _ _ => .inl (by simp)) harr⟩
 | goto l => exact ⟨_, a₁, w₁, hq, .pass (x := .inLoop c) rfl (fun _ _ => .inl (by simp)) harr⟩
 | ret => exact ⟨_, a₁, w₁, hq, .pass (x := .inLoop c) rfl (fun _ _ => .inl (by simp)) harr⟩
 | panic ch => exact ⟨_, a₁, w₁, hq, .pass (x := .inLoop c) rfl (fun _ _ => .inl (by simp)) harr⟩
 | outgrown => exact ⟨_, a₁, w₁, hq, .pass (x := .inLoop c) rfl (fun _ _ => .inl (by simp)) harr⟩
theorem WC.unroll (h : WC P n F w₀ (Exit.then (y7g P Q c) Q) c env L) : WC P n F w₀ Q (.loop c) env L := by
 intro a w hs b k cs hro hb hrm
 obtain ⟨e, a', w', hq, harr⟩ := y7g.of h a w hs b k cs hro hb hrm
 exact ⟨e, a', w', hq, .of_steps (.one (fenced_calm hb hrm rfl) stepR_loop) harr⟩
theorem WX.again (h : WC P n F w₀ (Exit.then (y7g P Q c) Q) c env L) : WX n F w₀ (Exit.then (y7g P Q c) Q) .normal env L :=
 fun a w hs => y7g.of h a w hs
end unroll
end Sep
