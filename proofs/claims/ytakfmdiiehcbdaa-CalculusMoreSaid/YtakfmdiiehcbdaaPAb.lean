/- A part of this claim's proof: models of functions, walks, plain laws. No conditions. -/
import Derived.Test.YtakfmdiiehcbdaaPAa
namespace Go.Proofs.Ytakfmdiiehcbdaa
open Go Go.RowKit Sep
set_option linter.all false
def WZ (n : Int) : Rat := Rat.divInt n 1
theorem y8z (m n : Int) : WZ m - WZ n = WZ (m - n) := by
 unfold WZ
 rw [Rat.divInt_sub_divInt _ _ (by decide) (by decide)]
 congr 1
 omega
theorem y3z {n : Int} (h : 0 ≤ n) : 0 ≤ WZ n := Rat.divInt_nonneg h (by decide)
theorem WZ_one : WZ 1 = 1 := by decide +kernel
theorem y4d {m n : Int} (h : m ≤ n) : WZ m ≤ WZ n := by
 have := y3z (n := n - m) (by omega)
 rw [← y8z] at this
 grind
theorem y6z {m n : Int} (h : m < n) : WZ m < WZ n := by
 have h1 := y4d (m := m + 1) (n := n) (by omega)
 have h2 := y8z (m + 1) m
 rw [show m + 1 - m = 1 by omega, WZ_one] at h2
 grind
theorem y76 {m n : Int} (h : WZ m < WZ n) : m < n := by
 rcases Int.lt_or_le m n with h1 | h1
 ·exact h1
 ·have := y4d h1; grind
def y18 (P : List Int) (q : Rat) : Prop := (∃ f ∈ P, WZ f ≤ q ∧ q < WZ (f + 1)) ∧ ∃ e ∈ P, WZ (e - 1) < q ∧ q ≤ WZ e
def y4I (P : List Int) (U : Rat → Rat) (R : Rat) : Prop := ∀ lo x : Int, 0 ≤ lo → lo < x → (∀ p ∈ P, p ≤ x → p ≤ lo) → ∃ u0 u1 : Rat, U (WZ lo) = u0 + u1 * WZ lo ∧ U (WZ x) = u0 + u1 * WZ x ∧
 (∀ hi : Int, x < hi → (∀ p ∈ P, x ≤ p → hi ≤ p) → U (WZ hi) = u0 + u1 * WZ hi) ∧ ((∀ p ∈ P, ¬ x ≤ p) → u1 = R)
theorem y7d {a b : List B} {P : List Int} {U : Rat → Rat} {R : Rat} (ha : SC a) (hb : SC b) (hP0 : 0 ∈ P) (hPpos : ∀ p ∈ P, 0 ≤ p) (ca : ∀ q, y6j a q → y18 P q) (cb : ∀ q, y6j b q → y18 P q) (hU : y4I P U R)
  (hR : ∃ b1 ∈ y1d a, ∃ b2 ∈ y1d b, rq b1 + rq b2 ≤ R) {x : Int} (hx : 0 ≤ x) : ∃ p ∈ P, AT a (WZ x) + AT b (WZ x) - U (WZ x) ≤ AT a (WZ p) + AT b (WZ p) - U (WZ p) := by
 obtain ⟨lo, hlo, hlox, hlo2⟩ := ex_lo (P := P) (x := x) ⟨0, hP0, hx⟩
 by_cases e : lo = x
 ·exact ⟨lo, hlo, by rw [e]; exact Rat.le_refl⟩
 have hlt : lo < x := by omega
 have hlo0 := hPpos lo hlo
 obtain ⟨u0, u1, ul, ux, uh, ur⟩ := hU lo x hlo0 hlt hlo2
 obtain ⟨B1, m1, x1, l1, h1, r1⟩ := stays ha.all ha.ne (y3z hx)
 obtain ⟨B2, m2, x2, l2, h2, r2⟩ := stays hb.all hb.ne (y3z hx)
 have noLo : ∀ q, y18 P q → ¬ (WZ lo < q ∧ q ≤ WZ x) := by
  rintro q ⟨_, e, he, e1, e2⟩ ⟨q1, q2⟩
  have : e - 1 < x := y76 (by grind)
  have h3 := hlo2 e he (by omega)
  have := y4d h3
  grind
 have L1 := l1 (WZ lo) (y3z hlo0) (y6z hlt) fun q hq => noLo q (ca q hq)
 have L2 := l2 (WZ lo) (y3z hlo0) (y6z hlt) fun q hq => noLo q (cb q hq)
 have wl := y6z hlt
 have key : ∀ {ρ t t' : Rat}, 0 ≤ ρ → t ≤ t' → ρ * t ≤ ρ * t' := fun h h' => Rat.mul_le_mul_of_nonneg_left h' h
 by_cases hhi : ∃ p ∈ P, x ≤ p
 ·obtain ⟨hi, g0, g1, g2⟩ := ex_hi hhi
  by_cases e2 : hi = x
  ·exact ⟨hi, g0, by rw [e2]; exact Rat.le_refl⟩
  have hxh : x < hi := by omega
  have noHi : ∀ q, y18 P q → ¬ (WZ x ≤ q ∧ q < WZ hi) := by
   rintro q ⟨⟨f, hf, f1, f2⟩, _⟩ ⟨q1, q2⟩
   have : x < f + 1 := y76 (by grind)
   have h3 := g2 f hf (by omega)
   have := y4d h3
   grind
  have H1 := h1 (WZ hi) (y6z hxh) fun q hq => noHi q (ca q hq)
  have H2 := h2 (WZ hi) (y6z hxh) fun q hq => noHi q (cb q hq)
  have uH := uh hi hxh g2
  have wh := y6z hxh
  rcases (Rat.le_total : u1 ≤ rq B1 + rq B2 ∨ rq B1 + rq B2 ≤ u1) with hs | hs
  ·refine ⟨hi, g0, ?_⟩
   rw [x1, x2, H1, H2, ux, uH]
   have := key (ρ := rq B1 + rq B2 - u1) (by grind) (Rat.le_of_lt wh)
   unfold vq
   grind
  ·refine ⟨lo, hlo, ?_⟩
   rw [x1, x2, L1, L2, ux, ul]
   have := key (ρ := u1 - (rq B1 + rq B2)) (by grind) (Rat.le_of_lt wl)
   unfold vq
   grind
 ·have hno : ∀ p ∈ P, ¬ x ≤ p := fun p hp h => hhi ⟨p, hp, h⟩
  have noB : ∀ q, y18 P q → ¬ WZ x ≤ q := by
   rintro q ⟨⟨f, hf, f1, f2⟩, _⟩ q1
   have : x < f + 1 := y76 (by grind)
   exact hno f hf (by omega)
  have R1 := r1 fun q hq => noB q (ca q hq)
  have R2 := r2 fun q hq => noB q (cb q hq)
  obtain ⟨c1, k1, c2, k2, hc⟩ := hR
  have := R1 c1 k1; have := R2 c2 k2
  have hu := ur hno
  refine ⟨lo, hlo, ?_⟩
  rw [x1, x2, L1, L2, ux, ul]
  have := key (ρ := u1 - (rq B1 + rq B2)) (by grind) (Rat.le_of_lt wl)
  unfold vq
  grind
theorem y9b {P : List Int} (R : Rat) : y4I P (fun t => R * t) R := by
 intro lo x _ _ _
 exact ⟨0, R, by grind, by grind, fun hi _ _ => by grind, fun _ => rfl⟩
def y2Y (R : Rat) (L : Int) (t : Rat) : Rat := if t ≤ WZ L then 0 else R * (t - WZ L)
theorem y8f {P : List Int} (R : Rat) {L : Int} (hL : L ∈ P) : y4I P (y2Y R L) R := by
 intro lo x h0 hlt hlo
 by_cases h : x ≤ L
 ·by_cases hx : x = L
  ·exfalso; have := hlo L hL (by omega); omega
  ·have hxL : x < L := by omega
   refine ⟨0, 0, ?_, ?_, fun hi h1 h2 => ?_, fun hn => absurd h (hn L hL)⟩
   ·unfold y2Y; rw [if_pos (y4d (by omega))]; grind
   ·unfold y2Y; rw [if_pos (y4d h)]; grind
   ·have := h2 L hL h
    unfold y2Y; rw [if_pos (y4d this)]; grind
 ·have hLl := hlo L hL (by omega)
  have key : ∀ t : Int, L ≤ t → y2Y R L (WZ t) = -(R * WZ L) + R * WZ t := by
   intro t ht
   unfold y2Y
   by_cases e : t = L
   ·rw [e, if_pos Rat.le_refl]; grind
   ·rw [if_neg (Rat.not_le.2 (y6z (by omega)))]; grind
  exact ⟨-(R * WZ L), R, key lo hLl, key x (by omega), fun hi h1 _ => key hi (by omega), fun _ => rfl⟩
end Go.Proofs.Ytakfmdiiehcbdaa
