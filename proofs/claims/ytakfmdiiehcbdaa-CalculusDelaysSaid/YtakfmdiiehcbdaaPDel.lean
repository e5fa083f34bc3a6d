/- A part of this claim's proof: models of functions, walks, plain laws. No conditions. -/
import Derived.Test.YtakfmdiiehcbdaaPCg
namespace Go.Proofs.Ytakfmdiiehcbdaa
open Go Go.RowKit Sep
set_option linter.all false
abbrev SV := zSv
def VS (s : SV) : Bool := (V s.fR && decide (s.fR.fN > 0) && V s.fLatency) && decide (s.fLatency.fN ≥ 0)
theorem y8D (s : SV) : y2N s = some (VS s) := by
 unfold y2N VS
 rw [y2p, y2p, Option.bind_some, Option.bind_some]
 cases V s.fR <;> cases decide (s.fR.fN > 0) <;> simp
theorem VS_r {s : SV} (h : VS s = true) : V s.fR = true ∧ 0 < s.fR.fN ∧ V s.fLatency = true ∧ 0 ≤ s.fLatency.fN := by
 simp only [VS, Bool.and_eq_true, decide_eq_true_eq] at h
 exact ⟨h.1.1.1, h.1.1.2, h.1.2, h.2⟩
def RS (s : SV) : Rat := val s.fR
def LS (s : SV) : Rat := val s.fLatency
theorem y8E {s : SV} (h : VS s = true) : 0 ≤ LS s := by
 obtain ⟨_, _, h1, h2⟩ := VS_r h
 exact Rat.num_nonneg.1 (by show 0 ≤ (val s.fLatency).num; rw [(y6t h1).1]; exact h2)
theorem y5W : y1L = some ⟨0, 1⟩ := rfl
theorem y7q : V ⟨0, 1⟩ = true := by decide +kernel
theorem y9Q : GR ⟨0, 1⟩ = true := by decide +kernel
theorem y3O : val ⟨0, 1⟩ = 0 := by decide +kernel
theorem y53 {f : R → R → Option (R × Int)} {x y : R} {q : Rat} (h : f x y = some (mk q)) : y12 ⟨0⟩ f x y = some (if fits q then (ofQ q, ⟨0⟩) else (⟨0, 1⟩, ⟨3⟩)) := by
 unfold y12
 rw [if_neg (by simp), h, Option.bind_some, y5W]
 unfold mk
 cases fits q <;> rfl
/-! ### a single bucket -/
theorem y54 {b : B} (hb : GB b = true) : VC [b] = true := VC_of (fun x hx => by rw [List.mem_singleton.1 hx]; exact hb) (by simp) (by simp)
theorem y3p {b : B} (hb : GB b = true) : y1Z [b] = some ([], 0) := by
 have h := yaw (y54 hb)
 have hm : ∀ x ∈ y1w [b], x = b := fun x hx => List.mem_singleton.1 (NORM_sub hx)
 have hbl : ∀ p : B × B, p.1 ∈ y1w [b] ∧ p.2 ∈ y1w [b] → bl p = false := by
  intro p hp
  unfold bl
  rw [hm _ hp.1, hm _ hp.2]
  exact decide_eq_false (by grind)
 rw [if_pos] at h
 ·obtain ⟨r, e, _, h2, _⟩ := h
  have : r = [] := by
   cases r with
   | nil => rfl
   | cons x r =>
    obtain ⟨p, hp, h3, _⟩ := (h2 x).1 (by simp)
    rw [hbl p hp] at h3
    cases h3
  rw [e, this]
 ·rw [List.all_eq_true]
  intro p hp
  unfold bok
  rw [hbl p (y6g.1 hp)]
  rfl
theorem y73 {b : B} (hb : GB b = true) : y3b [b] = some (b.fR, 0) := by
 obtain ⟨d, e, hd, _⟩ := rate_ok (y54 hb)
 rw [e, List.mem_singleton.1 hd]
theorem y8b {R A0 A1 A2 : Type} {K : A0 → A1 → A2 → Option R} {F : (A0 → A1 → A2 → Option R) → Option R} {P : Option R → Prop} (h : ∀ k : A0 → A1 → A2 → Option R, (∀ x0 x1 x2, k x0 x1 x2 = K x0 x1 x2) → P (F k)) : P (jp3 K F) := h K fun _ _ _ => rfl
theorem RS_ne {s : SV} (h : VS s = true) : s.fR.fN ≠ 0 := by have := (VS_r h).2.1; omega
end Go.Proofs.Ytakfmdiiehcbdaa
