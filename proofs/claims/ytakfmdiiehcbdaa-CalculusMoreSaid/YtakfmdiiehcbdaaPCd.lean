/- A part of this claim's proof: models of functions, walks, plain laws. No conditions. -/
import Derived.Test.YtakfmdiiehcbdaaPCc
namespace Go.Proofs.Ytakfmdiiehcbdaa
open Go Go.RowKit Sep
set_option linter.all false
/-! ### the order of buckets -/
def le2 (a b : B) : Prop := bq a ≤ bq b ∧ rq a ≤ rq b
instance (a b : B) : Decidable (le2 a b) := inferInstanceAs (Decidable (_ ∧ _))
theorem y9I (a : B) : le2 a a := ⟨Rat.le_refl, Rat.le_refl⟩
theorem yaT {a b c : B} (h : le2 a b) (h' : le2 b c) : le2 a c := ⟨Rat.le_trans h.1 h'.1, Rat.le_trans h.2 h'.2⟩
theorem dom_iff {a b : B} : dom a b = true ↔ a ≠ b ∧ le2 a b := by unfold dom le2; simp [and_assoc]
theorem yaU {a b : B} : dom a b = false ↔ (le2 a b → a = b) := by
 rw [Bool.eq_false_iff, ne_eq, dom_iff]
 constructor
 ·intro h h'
  exact Classical.byContradiction fun hn => h ⟨hn, h'⟩
 ·intro h h'
  exact h'.1 (h h'.2)
theorem y8Q {c : List B} {v : B} : v ∈ y1d c ↔ v ∈ c ∧ ∀ a ∈ c, le2 a v → a = v := by
 rw [y8d]; simp only [yaU]
theorem cmpb {a b : B} (ha : GB a = true) (hb : GB b = true) : yQ a.fB b.fB = some (y2F (bq a) (bq b)) := y3k (y2j (y54 ha)) (y2j (y54 hb))
theorem y7A {α : Type} (key : α → Rat) (l : List α) (h : l ≠ []) : ∃ x ∈ l, ∀ y ∈ l, key x ≤ key y := by
 have hm := y7R (l.map key) (by simpa using h)
 obtain ⟨x, hx, e⟩ := List.mem_map.1 hm.1
 exact ⟨x, hx, fun y hy => by rw [e]; exact hm.2 _ (List.mem_map_of_mem hy)⟩
theorem y5M {c : List B} (hc : ∀ b ∈ c, GB b = true) {v : B} (hv : v ∈ c) : ∃ a ∈ y1d c, le2 a v := by
 have hne : (c.filter fun a => decide (le2 a v)) ≠ [] := List.ne_nil_of_mem (List.mem_filter.2 ⟨hv, decide_eq_true (y9I v)⟩)
 obtain ⟨a, ha, hle⟩ := y7A (fun b => bq b + rq b) _ hne
 obtain ⟨ha, hav⟩ := List.mem_filter.1 ha
 have hav := of_decide_eq_true hav
 refine ⟨a, y8Q.2 ⟨ha, fun b hb hba => ?_⟩, hav⟩
 have h1 := hle b (List.mem_filter.2 ⟨hb, decide_eq_true (yaT hba hav)⟩)
 have h2 := hba.1; have h3 := hba.2
 refine yav (hc b hb) (hc a ha) ?_ ?_ <;> grind
theorem NORM_all {c : List B} (hc : ∀ b ∈ c, GB b = true) : ∀ b ∈ y1d c, GB b = true := fun b hb => hc b (y8Q.1 hb).1
theorem y6h {c : List B} {b : B} (hb : b ∈ y1d c) : b ∈ c := (y8Q.1 hb).1
theorem yad {c : List B} (hc : ∀ b ∈ c, GB b = true) (h : c ≠ []) : y1d c ≠ [] := by
 obtain ⟨v, hv⟩ := List.exists_mem_of_ne_nil c h
 obtain ⟨a, ha, _⟩ := y5M hc hv
 exact List.ne_nil_of_mem ha
/-! values of lists -/
theorem vq_le {a b : B} {t : Rat} (h : le2 a b) (ht : 0 ≤ t) : vq t a ≤ vq t b := by
 have h1 := h.1
 have h2 := Rat.mul_le_mul_of_nonneg_right h.2 ht
 unfold vq
 grind
theorem AT_congr {c d : List B} {t : Rat} (hc : c ≠ []) (hd : d ≠ []) (ht : 0 ≤ t) (h1 : ∀ v ∈ c, ∃ a ∈ d, le2 a v) (h2 : ∀ v ∈ d, ∃ a ∈ c, le2 a v) : AT c t = AT d t := by
 have sub : ∀ {c d : List B}, c ≠ [] → d ≠ [] → (∀ v ∈ c, ∃ a ∈ d, le2 a v) → AT d t ≤ AT c t := by
  intro c d hc hd h
  obtain ⟨b, hb, e⟩ := List.mem_map.1 (y8y (t := t) hc).1
  obtain ⟨a, ha, hab⟩ := h b hb
  rw [← e]
  exact Rat.le_trans ((y8y (t := t) hd).2 _ (List.mem_map_of_mem ha)) (vq_le hab ht)
 exact Rat.le_antisymm (sub hd hc h2) (sub hc hd h1)
theorem y8R {c : List B} {t : Rat} (hc : ∀ b ∈ c, GB b = true) (hn : c ≠ []) (ht : 0 ≤ t) : AT (y1d c) t = AT c t :=
 AT_congr (yad hc hn) hn ht (fun v hv => ⟨v, y6h hv, y9I v⟩) (fun v hv => y5M hc hv)
/-! ### Shift -/
end Go.Proofs.Ytakfmdiiehcbdaa
