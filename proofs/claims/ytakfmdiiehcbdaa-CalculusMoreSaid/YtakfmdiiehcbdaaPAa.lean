/- A part of this claim's proof: models of functions, walks, plain laws. No conditions. -/
import Derived.Test.YtakfmdiiehcbdaaPDel
namespace Go.Proofs.Ytakfmdiiehcbdaa
open Go Go.RowKit Sep
set_option linter.all false
theorem SB.bpfit {p : B × B} (h1 : SB p.1) (h2 : SB p.2) (hd : bl p = true → rq p.2 < rq p.1) : bok p = true := by
 unfold bok
 cases hb : bl p with
 | false => rfl
 | true =>
  have g1 : G (100 + 100) 1 (bpA p) := h2.2.1.sub (by omega) h1.2.1
  have g2 : G (5 + 5) 8 (bpD p) := h1.2.2.sub (by omega) h2.2.2
  have hpos : 0 < bpD p := by have := hd hb; unfold bpD; grind
  have f1 := g1.fits (by omega) (by omega) (by omega)
  have f2 := g2.fits (by omega) (by omega) (by omega)
  obtain ⟨n, hn, en⟩ := g1
  obtain ⟨j, hj, ej⟩ := g2
  have hj0 : 0 < j := by
   rw [ej] at hpos
   rcases Int.lt_or_le 0 j with h | h
   ·exact h
   ·have : Rat.divInt (-j) ((8 : Nat) : Int) ≥ 0 := Rat.divInt_nonneg (by omega) (by omega)
    rw [← Rat.neg_divInt] at this
    grind
  unfold bfit
  rw [f1, f2]
  simp only [Bool.not_true, Bool.false_or, Bool.true_and]
  unfold bp
  rw [en, ej, Rat.div_def, Rat.inv_divInt, Rat.divInt_mul_divInt]
  exact y2r (by omega) (by omega)
theorem SC.breaks {c : List B} (h : SC c) : ∃ r, yB c = some (r, 0) ∧ Inc r ∧ (∀ v, v ∈ r ↔ ∃ p, (p.1 ∈ y1d c ∧ p.2 ∈ y1d c) ∧ bl p = true ∧ v = ofQ (bp p)) ∧ (∀ v ∈ r, V v = true) ∧ r.length ≤ 1100 := by
 have := yaV h.VC
 rwa [if_pos] at this
 rw [List.all_eq_true]
 intro p hp
 have hm := y6i.1 hp
 exact (h.2.2 _ (y6h hm.1)).bpfit (h.2.2 _ (y6h hm.2)) (fun h => y6x y3O hm.1 hm.2 (of_decide_eq_true h))
theorem y7B {p : B × B} (h : 0 < bpD p) : bp p * bpD p = bpA p := by
 unfold bp
 exact Rat.div_mul_cancel (by grind)
theorem bp_gt {p : B × B} {t : Rat} (h : 0 < bpD p) (ht : vq t p.1 < vq t p.2) : t < bp p := by
 have e := y7B h
 refine Rat.not_le.1 fun hle => ?_
 have := Rat.mul_le_mul_of_nonneg_right hle (Rat.le_of_lt h)
 unfold vq at ht; unfold bpA bpD at *
 grind
theorem bp_le {p : B × B} {t : Rat} (h : 0 < bpD p) (ht : vq t p.2 ≤ vq t p.1) : bp p ≤ t := by
 have e := y7B h
 refine Rat.not_lt.1 fun hlt => ?_
 have := Rat.mul_lt_mul_of_pos_right hlt h
 unfold vq at ht; unfold bpA bpD at *
 grind
theorem bp_lt {p : B × B} {t : Rat} (h : 0 < bpD p) (ht : vq t p.2 < vq t p.1) : bp p < t := by
 have e := y7B h
 refine Rat.not_le.1 fun hle => ?_
 have := Rat.mul_le_mul_of_nonneg_right hle (Rat.le_of_lt h)
 unfold vq at ht; unfold bpA bpD at *
 grind
theorem bp_ge {p : B × B} {t : Rat} (h : 0 < bpD p) (ht : vq t p.1 ≤ vq t p.2) : t ≤ bp p := by
 have e := y7B h
 refine Rat.not_lt.1 fun hlt => ?_
 have := Rat.mul_lt_mul_of_pos_right hlt h
 unfold vq at ht; unfold bpA bpD at *
 grind
theorem y6y : ∀ {l : List B}, (l.Pairwise fun x y => bq x < bq y ∧ rq y < rq x) → ∀ {x y : B}, x ∈ l → y ∈ l → rq y < rq x → bq x < bq y
 | [], _, x, y, hx, _, _ => by simp at hx
 | z :: l, h, x, y, hx, hy, hxy => by
  obtain ⟨h1, h2⟩ := List.pairwise_cons.1 h
  rcases List.mem_cons.1 hx with e | hx'
  ·subst e
   rcases List.mem_cons.1 hy with e | hy'
   ·subst e; grind
   ·exact (h1 y hy').1
  ·rcases List.mem_cons.1 hy with e | hy'
   ·subst e; have := (h1 x hx').2; grind
   ·exact y6y h2 hx' hy' hxy
theorem AT_ex {c : List B} (h : c ≠ []) (t : Rat) : ∃ b ∈ c, AT c t = vq t b := by
 obtain ⟨b, hb, e⟩ := List.mem_map.1 (y8y (t := t) h).1
 exact ⟨b, hb, e.symm⟩
theorem AT_low {c : List B} {t : Rat} {b : B} (hb : b ∈ c) : AT c t ≤ vq t b := (y8y (t := t) (List.ne_nil_of_mem hb)).2 _ (List.mem_map_of_mem hb)
def y6j (c : List B) (q : Rat) : Prop := ∃ p : B × B, p.1 ∈ y1d c ∧ p.2 ∈ y1d c ∧ bq p.1 < bq p.2 ∧ q = bp p
theorem stays {c : List B} (hc : ∀ b ∈ c, GB b = true) (hne : c ≠ []) {x : Rat} (hx : 0 ≤ x) : ∃ b ∈ y1d c, AT c x = vq x b ∧
  (∀ lo : Rat, 0 ≤ lo → lo < x → (∀ q, y6j c q → ¬ (lo < q ∧ q ≤ x)) → AT c lo = vq lo b) ∧
  (∀ hi : Rat, x < hi → (∀ q, y6j c q → ¬ (x ≤ q ∧ q < hi)) → AT c hi = vq hi b) ∧
  ((∀ q, y6j c q → ¬ x ≤ q) → ∀ b' ∈ y1d c, rq b ≤ rq b') := by
 have hN := yad hc hne
 obtain ⟨b, hb, eb⟩ := AT_ex hN x
 have hmin : ∀ b' ∈ y1d c, vq x b ≤ vq x b' := fun b' h => by rw [← eb]; exact AT_low h
 refine ⟨b, hb, by rw [← y8R hc hne hx]; exact eb, fun lo h0 hlo hno => ?_, fun hi hhi hno => ?_, fun hno b' hb' => ?_⟩
 ·rw [← y8R hc hne h0]
  refine y8P ⟨List.mem_map_of_mem hb, fun q hq => ?_⟩
  obtain ⟨b', hb', rfl⟩ := List.mem_map.1 hq
  refine Rat.not_lt.1 fun hlt => ?_
  have h1 := hmin b' hb'
  have hr : rq b < rq b' := by
   refine Rat.not_le.1 fun hle => ?_
   have h2 := Rat.mul_le_mul_of_nonneg_right hle (show 0 ≤ x - lo by grind)
   unfold vq at hlt h1; grind
  have hbq := y6y y3O hb' hb hr
  have hD : 0 < bpD (b', b) := by unfold bpD; grind
  exact hno _ ⟨(b', b), hb', hb, hbq, rfl⟩ ⟨bp_gt (p := (b', b)) hD hlt, bp_le (p := (b', b)) hD h1⟩
 ·have h0 : 0 ≤ hi := by grind
  rw [← y8R hc hne h0]
  refine y8P ⟨List.mem_map_of_mem hb, fun q hq => ?_⟩
  obtain ⟨b', hb', rfl⟩ := List.mem_map.1 hq
  refine Rat.not_lt.1 fun hlt => ?_
  have h1 := hmin b' hb'
  have hr : rq b' < rq b := by
   refine Rat.not_le.1 fun hle => ?_
   have h2 := Rat.mul_le_mul_of_nonneg_right hle (show 0 ≤ hi - x by grind)
   unfold vq at hlt h1; grind
  have hbq := y6y y3O hb hb' hr
  have hD : 0 < bpD (b, b') := by unfold bpD; grind
  exact hno _ ⟨(b, b'), hb, hb', hbq, rfl⟩ ⟨bp_ge (p := (b, b')) hD h1, bp_lt (p := (b, b')) hD hlt⟩
 ·refine Rat.not_lt.1 fun hlt => ?_
  have hbq := y6y y3O hb hb' hlt
  have hD : 0 < bpD (b, b') := by unfold bpD; grind
  exact hno _ ⟨(b, b'), hb, hb', hbq, rfl⟩ (bp_ge (p := (b, b')) hD (hmin b' hb'))
theorem ex_lo {P : List Int} {x : Int} (h : ∃ p ∈ P, p ≤ x) : ∃ lo ∈ P, lo ≤ x ∧ ∀ p ∈ P, p ≤ x → p ≤ lo := by
 obtain ⟨p0, h0, h1⟩ := h
 have hne : (P.filter fun p => decide (p ≤ x)) ≠ [] := List.ne_nil_of_mem (List.mem_filter.2 ⟨h0, decide_eq_true h1⟩)
 obtain ⟨lo, hlo, hm⟩ := y7A (fun p : Int => -(Rat.divInt p 1)) _ hne
 obtain ⟨hlo, h2⟩ := List.mem_filter.1 hlo
 refine ⟨lo, hlo, of_decide_eq_true h2, fun p hp hpx => ?_⟩
 have := hm p (List.mem_filter.2 ⟨hp, decide_eq_true hpx⟩)
 rcases Int.lt_or_le lo p with h3 | h3
 ·exfalso
  have h4 : (0 : Rat) ≤ Rat.divInt (p - lo - 1) 1 := Rat.divInt_nonneg (by omega) (by decide)
  have h5 : Rat.divInt p 1 = Rat.divInt (p - lo - 1) 1 + Rat.divInt lo 1 + 1 := by
   have e1 : (1 : Rat) = Rat.divInt 1 1 := by decide +kernel
   rw [e1, Rat.divInt_add_divInt _ _ (by decide) (by decide), Rat.divInt_add_divInt _ _ (by decide) (by decide)]
   congr 1
   omega
  grind
 ·exact h3
theorem ex_hi {P : List Int} {x : Int} (h : ∃ p ∈ P, x ≤ p) : ∃ hi ∈ P, x ≤ hi ∧ ∀ p ∈ P, x ≤ p → hi ≤ p := by
 obtain ⟨p0, h0, h1⟩ := h
 obtain ⟨lo, h2, h3, h4⟩ := ex_lo (P := P.map fun p => -p) (x := -x) ⟨-p0, List.mem_map.2 ⟨p0, h0, rfl⟩, by omega⟩
 obtain ⟨p, hp, e⟩ := List.mem_map.1 h2
 refine ⟨p, hp, by omega, fun q hq hqx => ?_⟩
 have := h4 (-q) (List.mem_map.2 ⟨q, hq, rfl⟩) (by omega)
 omega
end Go.Proofs.Ytakfmdiiehcbdaa
