/- A part of this claim's proof: models of functions, walks, plain laws. No conditions. -/
import Derived.Test.YtakfmdiiehcbdaaPCg
namespace Go.Proofs.Ytakfmdiiehcbdaa
open Go Go.RowKit Sep
set_option linter.all false
abbrev SV := zSv
def VS (s : SV) : Bool := (V s.fR && decide (s.fR.fN > 0) && V s.fLatency) && decide (s.fLatency.fN ≥ 0)
theorem y96 (s : SV) : y2E s = some (VS s) := by
 unfold y2E VS
 rw [y2i, y2i, Option.bind_some, Option.bind_some]
 cases V s.fR <;> cases decide (s.fR.fN > 0) <;> simp
theorem VS_r {s : SV} (h : VS s = true) : V s.fR = true ∧ 0 < s.fR.fN ∧ V s.fLatency = true ∧ 0 ≤ s.fLatency.fN := by
 simp only [VS, Bool.and_eq_true, decide_eq_true_eq] at h
 exact ⟨h.1.1.1, h.1.1.2, h.1.2, h.2⟩
def RS (s : SV) : Rat := val s.fR
def LS (s : SV) : Rat := val s.fLatency
theorem RS_pos {s : SV} (h : VS s = true) : 0 < RS s := by
 obtain ⟨h1, h2, _, _⟩ := VS_r h
 have h3 : 0 < (val s.fR).num := by rw [(y5J h1).1]; exact h2
 have h4 : 0 ≤ val s.fR := Rat.num_nonneg.1 (by omega)
 refine Rat.not_le.1 fun h5 => ?_
 have h6 : RS s = 0 := Rat.le_antisymm h5 h4
 rw [show val s.fR = 0 from h6] at h3
 exact absurd h3 (by decide)
theorem y5W : y1E = some ⟨0, 1⟩ := rfl
theorem y4S {f : R → R → Option (R × Int)} {x y : R} {q : Rat} (h : f x y = some (mk q)) : y10 ⟨0⟩ f x y = some (if fits q then (ofQ q, ⟨0⟩) else (⟨0, 1⟩, ⟨3⟩)) := by
 unfold y10
 rw [if_neg (by simp), h, Option.bind_some, y5W]
 unfold mk
 cases fits q <;> rfl
/-! ### a single bucket -/
theorem y9K {R A0 A1 A2 : Type} {K : A0 → A1 → A2 → Option R} {F : (A0 → A1 → A2 → Option R) → Option R} {P : Option R → Prop} (h : ∀ k : A0 → A1 → A2 → Option R, (∀ x0 x1 x2, k x0 x1 x2 = K x0 x1 x2) → P (F k)) : P (jp3 K F) := h K fun _ _ _ => rfl
theorem RS_ne {s : SV} (h : VS s = true) : s.fR.fN ≠ 0 := by have := (VS_r h).2.1; omega
end Go.Proofs.Ytakfmdiiehcbdaa
