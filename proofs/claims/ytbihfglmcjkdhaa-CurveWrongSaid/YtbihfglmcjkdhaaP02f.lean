/- A part of this claim's proof: models of functions, walks, plain laws. No conditions. -/
import Derived.Test.YtbihfglmcjkdhaaP02e
namespace Go.Proofs.Ytbihfglmcjkdhaa
open Go Go.RowKit Sep
set_option linter.all false
theorem jp0_ex' {R : Type} {K : Option R} {F : Option R → Option R} {P : Option R → Prop} (h : ∀ k : Option R, k = K → P (F k)) : P (jp0 K F) := h K rfl
/-! ### Compact -/
/-- strictly increasing -/
def Inc (l : List R) : Prop := l.Pairwise fun x y => val x < val y
theorem Inc.ext : ∀ {l m : List R}, Inc l → Inc m → (∀ v, v ∈ l ↔ v ∈ m) → l = m
  | [], [], _, _, _ => rfl
  | [], y :: m, _, _, h => by have := (h y).2 (by simp); simp at this
  | x :: l, [], _, _, h => by have := (h x).1 (by simp); simp at this
  | x :: l, y :: m, hl, hm, h => by
    obtain ⟨h1, hl'⟩ := List.pairwise_cons.1 hl
    obtain ⟨h2, hm'⟩ := List.pairwise_cons.1 hm
    have e : x = y := by
      rcases List.mem_cons.1 ((h x).1 (by simp)) with e | h3
      · exact e
      · rcases List.mem_cons.1 ((h y).2 (by simp)) with e | h4
        · exact e.symm
        · have := h1 y h4; have := h2 x h3; grind
    subst e
    refine congrArg (x :: ·) (Inc.ext hl' hm' fun v => ?_)
    constructor
    · intro hv
      rcases List.mem_cons.1 ((h v).1 (by simp [hv])) with e | h3
      · subst e; have := h1 v hv; grind
      · exact h3
    · intro hv
      rcases List.mem_cons.1 ((h v).2 (by simp [hv])) with e | h3
      · subst e; have := h2 v hv; grind
      · exact h3
theorem lt_of_le_lt {a b c : Rat} (h : a ≤ b) (h' : b < c) : a < c := by grind
/-- what is gathered of the first m elements -/
def Cmp0 (s0 : List R) (m : Int) (r : List R) : Prop := Inc r ∧ (∀ v, v ∈ r ↔ v ∈ s0.take m.toNat) ∧ (r.length : Int) ≤ m
theorem Cmp0.step {s0 : List R} (hv : ∀ x ∈ s0, V x = true) (hs : s0.Pairwise fun x y => val x ≤ val y) {m : Int} (h0 : 1 ≤ m) (h : m < s0.length) {r : List R} (hr : Cmp0 s0 m r) :
    (nth s0 m = nth s0 (m - 1) → Cmp0 s0 (m + 1) r) ∧ (nth s0 m ≠ nth s0 (m - 1) → Cmp0 s0 (m + 1) (r ++ [nth s0 m])) := by
  have ht := take_succ s0 (i := m) (by omega) h
  have hp := take_succ s0 (i := m - 1) (by omega) (by omega)
  have hm1 : nth s0 (m - 1) ∈ s0.take m.toNat := by
    rw [show m = m - 1 + 1 by omega, hp]; simp
  constructor
  · intro e
    refine ⟨hr.1, fun v => ?_, by have := hr.2.2; omega⟩
    rw [ht, hr.2.1, List.mem_append, List.mem_singleton]
    constructor
    · exact fun h => .inl h
    · rintro (h | rfl)
      · exact h
      · rw [e]; exact hm1
  · intro e
    have hlt : val (nth s0 (m - 1)) < val (nth s0 m) := by
      have h1 := List.pairwise_iff_getElem.1 hs (m - 1).toNat m.toNat (by omega) (by omega) (by omega)
      rw [nth_lt (by omega) (by omega), nth_lt (by omega) (by omega)] at h1
      rcases lt_or_eq h1 with h | h
      · exact h
      · exact absurd (val_inj (hv _ (nth_mem (by omega) (by omega))) (hv _ (nth_mem (by omega) (by omega))) h).symm e
    constructor
    · unfold Inc
      rw [List.pairwise_append]
      refine ⟨hr.1, by simp, fun a ha b hb => ?_⟩
      obtain rfl := List.mem_singleton.1 hb
      have ha := (hr.2.1 a).1 ha
      obtain ⟨i, hi, rfl⟩ := List.mem_iff_getElem.1 ha
      rw [List.length_take] at hi
      rw [List.getElem_take]
      refine lt_of_le_lt ?_ hlt
      by_cases e2 : i = (m - 1).toNat
      · subst e2
        rw [nth_lt (by omega) (by omega)]; exact Rat.le_refl
      · have h1 := List.pairwise_iff_getElem.1 hs i (m - 1).toNat (by omega) (by omega) (by omega)
        rw [nth_lt (i := m - 1) (by omega) (by omega)] at h1
        exact h1
    · refine ⟨fun v => ?_, by have := hr.2.2; rw [List.length_append, List.length_singleton]; omega⟩
      rw [ht, List.mem_append, List.mem_append, hr.2.1]
end Go.Proofs.Ytbihfglmcjkdhaa
