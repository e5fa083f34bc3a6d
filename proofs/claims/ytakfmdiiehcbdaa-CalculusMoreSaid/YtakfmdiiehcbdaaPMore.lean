/- A part of this claim's proof: models of functions, walks, plain laws. No conditions. -/
import Derived.Test.YtakfmdiiehcbdaaPMa
import Derived.Test.YtakfmdiiehcbdaaP03w
import Derived.Test.YtakfmdiiehcbdaaWCalculusMore
namespace Go.Proofs.Ytakfmdiiehcbdaa
open Go Go.RowKit Sep
set_option linter.all false
open Ab
theorem y9c {P : List Int} {U : Rat → Rat} {R : Rat} (h : y4I P U R) : y4I P (fun t => U t + U t) (R + R) := by
 intro lo x h0 h1 h2
 obtain ⟨u0, u1, e1, e2, e3, e4⟩ := h lo x h0 h1 h2
 refine ⟨u0 + u0, u1 + u1, ?_, ?_, fun hi h5 h6 => ?_, fun h5 => ?_⟩
 ·show U (WZ lo) + U (WZ lo) = _; rw [e1]; grind
 ·show U (WZ x) + U (WZ x) = _; rw [e2]; grind
 ·have := e3 hi h5 h6
  show U (WZ hi) + U (WZ hi) = _; rw [this]; grind
 ·rw [e4 h5]
theorem max_ge {a b : List B} {l : List (List B)} {P : List Int} {U : Rat → Rat} {R : Rat} (ha : SC a) (hb : SC b) (hl : l = [a] ∨ l = [a, b]) (hP0 : 0 ∈ P) (hPpos : ∀ p ∈ P, 0 ≤ p) (hc : ∀ c ∈ l, ∀ q, y6j c q → y18 P q) (hU : y4I P U R)
  (hR : RT l ≤ R) {x : Int} (hx : 0 ≤ x) : ∃ p ∈ P, TL l (WZ x) - U (WZ x) ≤ TL l (WZ p) - U (WZ p) := by
 obtain ⟨_, _, _, _, d1, g1, r1⟩ := y77 ha
 obtain ⟨_, _, _, _, d2, g2, r2⟩ := y77 hb
 obtain ⟨b1, n1, l1⟩ := y5M ha.all g1
 obtain ⟨b2, n2, l2⟩ := y5M hb.all g2
 have l1' := l1.2
 have l2' := l2.2
 rcases hl with rfl | rfl
 ·have e : ∀ t, TL [a] t = AT a t := fun t => by unfold TL TL; grind
  have eR : RT [a] = rr a := by unfold RT RT; grind
  rw [eR] at hR
  obtain ⟨p, hp, hle⟩ := y7d ha ha hP0 hPpos (hc a (by simp)) (hc a (by simp)) (y9c hU) ⟨b1, n1, b1, n1, by grind⟩ hx
  refine ⟨p, hp, ?_⟩
  rw [e, e]
  have hle : AT a (WZ x) + AT a (WZ x) - (U (WZ x) + U (WZ x)) ≤ AT a (WZ p) + AT a (WZ p) - (U (WZ p) + U (WZ p)) := hle
  grind
 ·have e : ∀ t, TL [a, b] t = AT a t + AT b t := fun t => by unfold TL TL TL; grind
  have eR : RT [a, b] = rr a + rr b := by unfold RT RT RT; grind
  rw [eR] at hR
  obtain ⟨p, hp, hle⟩ := y7d ha hb hP0 hPpos (hc a (by simp)) (hc b (by simp)) hU ⟨b1, n1, b2, n2, by grind⟩ hx
  refine ⟨p, hp, ?_⟩
  rw [e, e]
  exact hle
theorem div_mono {T T' R R' : Rat} (h0 : 0 ≤ T) (h1 : T ≤ T') (h2 : 0 < R') (h3 : R' ≤ R) : T / R ≤ T' / R' := by
 have hR : 0 < R := by grind
 refine Rat.le_trans (y8A h1 hR) ?_
 have hz : 0 ≤ T' / R' := yaA (by grind) h2
 have e : T' = T' / R' * R' := (Rat.div_mul_cancel (by grind)).symm
 have h4 : T' / R' * R' ≤ T' / R' * R := Rat.mul_le_mul_of_nonneg_left h3 hz
 have h5 := y8A (a := T') (b := T' / R' * R) (by rw [← e] at h4; exact h4) hR
 rwa [Rat.div_def (T' / R' * R), Rat.mul_assoc, Rat.mul_inv_cancel _ (by grind), Rat.mul_one] at h5
theorem yag {T R q : Rat} (hR : 0 < R) : (T - R * q) / R = T / R - q := by
 have hne : R ≠ 0 := by grind
 rw [Rat.div_def, Rat.div_def, Rat.sub_eq_add_neg, Rat.add_mul, Rat.neg_mul, Rat.mul_comm R q, Rat.mul_assoc, Rat.mul_inv_cancel _ hne, Rat.mul_one, ← Rat.sub_eq_add_neg]
theorem yah {a b : List B} {l : List (List B)} (ha : SC a) (hb : SC b) (hl : l = [a] ∨ l = [a, b]) {t : Rat} (ht : 0 ≤ t) : 0 ≤ TL [a] t ∧ TL [a] t ≤ TL l t := by
 have h1 := ha.at_pos ht; have h2 := hb.at_pos ht
 rcases hl with rfl | rfl
 ·unfold TL TL; grind
 ·unfold TL TL TL; grind
theorem yaB {a b : List B} {l : List (List B)} {s s' : SV} {P : List Int} {m : Rat} {x : Int} (ha : SC a) (hb : SC b) (hl : l = [a] ∨ l = [a, b]) (hR : 0 < RS s') (hR' : RS s' ≤ RS s) (hL : LS s ≤ LS s') (hx : 0 ≤ x)
  (hP0 : 0 ∈ P) (hP : ∀ p ∈ P, 0 ≤ p ∧ p ≤ 4000) (hc : ∀ c ∈ l, ∀ q, y6j c q → y18 P q) (hm : ∀ p ∈ P, y4y l s' p ≤ m) (hr : RT l ≤ RS s') : y4y [a] s x ≤ m := by
 obtain ⟨p, hp, hle⟩ := max_ge ha hb hl hP0 (fun p hp => (hP p hp).1) hc (y9b (P := P) (RS s')) hr hx
 obtain ⟨t0, t1⟩ := yah ha hb hl (y3z hx)
 have h1 := div_mono t0 t1 hR hR'
 have hle : TL l (WZ x) - RS s' * WZ x ≤ TL l (WZ p) - RS s' * WZ p := hle
 have h2 := y8A hle hR
 rw [yag hR, yag hR] at h2
 have h3 := hm p hp
 unfold y4y at h3 ⊢
 grind
theorem y9W {R R' : Rat} {L L' x : Int} (h1 : 0 < R') (h2 : R' ≤ R) (h3 : L ≤ L') : y2Y R' L' (WZ x) ≤ y2Y R L (WZ x) := by
 have hW := y4d h3
 unfold y2Y
 by_cases c1 : WZ x ≤ WZ L'
 ·rw [if_pos c1]
  by_cases c2 : WZ x ≤ WZ L
  ·rw [if_pos c2]; exact Rat.le_refl
  ·rw [if_neg c2]; exact Rat.mul_nonneg (by grind) (by grind)
 ·rw [if_neg c1, if_neg (by grind)]
  have k1 : R' * (WZ x - WZ L') ≤ R * (WZ x - WZ L') := Rat.mul_le_mul_of_nonneg_right h2 (by grind)
  have k2 : R * (WZ x - WZ L') ≤ R * (WZ x - WZ L) := Rat.mul_le_mul_of_nonneg_left (by grind) (by grind)
  exact Rat.le_trans k1 k2
theorem y9M {a b : List B} {l : List (List B)} {s s' : SV} {P : List Int} {m : Rat} {x L L' : Int} (ha : SC a) (hb : SC b) (hl : l = [a] ∨ l = [a, b]) (hR : 0 < RS s') (hR' : RS s' ≤ RS s) (hL : L ≤ L') (hx : 0 ≤ x)
  (hP0 : 0 ∈ P) (hP : ∀ p ∈ P, 0 ≤ p ∧ p ≤ 4000) (hc : ∀ c ∈ l, ∀ q, y6j c q → y18 P q) (hLP : y18 P (WZ L')) (hm : ∀ p ∈ P, y42 l s' L' p ≤ m) (hr : RT l ≤ RS s') : y42 [a] s L x ≤ m := by
 have hLQ : L' ∈ P := by
  obtain ⟨⟨f, hf, f1, f2⟩, _⟩ := hLP
  have h5 : L' < f + 1 := y76 f2
  have h6 : ¬ L' < f := fun h => by have := y6z h; grind
  have : f = L' := by omega
  rw [← this]; exact hf
 obtain ⟨p, hp, hle⟩ := max_ge ha hb hl hP0 (fun p hp => (hP p hp).1) hc (y8f (P := P) (RS s') hLQ) hr hx
 obtain ⟨t0, t1⟩ := yah ha hb hl (y3z hx)
 have h1 := y9W (x := x) hR hR' hL
 have h3 := hm p hp
 unfold y42 at h3 ⊢
 grind
theorem y82 {j k k' : Int} (hj : 0 ≤ j) (hk : 0 < k) (h : k ≤ k') : Rat.divInt j k' ≤ Rat.divInt j k := by
 have h1 : (0 : Rat) ≤ Rat.divInt (j * (k' - k)) (k * k') := Rat.divInt_nonneg (Int.mul_nonneg hj (by omega)) (Int.mul_nonneg (by omega) (by omega))
 have h2 : Rat.divInt j k - Rat.divInt j k' = Rat.divInt (j * (k' - k)) (k * k') := by
  rw [Rat.divInt_sub_divInt _ _ (by omega) (by omega), Int.mul_sub]
 grind
def good (f : List (List B) → SV → Option (R × Int)) (base : R × Int) (l : List (List B)) (s : SV) : Prop :=
 ∃ v h, f l s = some (v, h) ∧ (h = 6 ∨ h = 0) ∧ (base.2 = 6 → h = 6) ∧ (base.2 = 0 → h = 0 → ∃ c, yQ v base.1 = some c ∧ ¬ c < 0)
theorem yai {p q : Rat} (h : p ≤ q) : ¬ y2F q p < 0 := by
 unfold y2F
 split
 ·grind
 ·split <;> simp
section law
variable {a b : List B} {s s' : SV} {l : List (List B)} {j k L k' L' : Int}
theorem yaj (ha : SC a) (hb : SC b) (hl : l = [a] ∨ l = [a, b]) : RT [a] ≤ RT l := by
 have h2 := (y77 hb).2.2.1
 rcases hl with rfl | rfl
 ·exact Rat.le_refl
 ·unfold RT RT RT; grind
theorem y6C (ha : SC a) (hb : SC b) (hl : l = [a] ∨ l = [a, b]) : CL l := by
 rcases hl with rfl | rfl
 ·exact ⟨by simp, by simpa using ha⟩
 ·exact ⟨by simp, by simpa using ⟨ha, hb⟩⟩
theorem y79 {base : R × Int} (ha : SC a) (hb : SC b) (hs : SK s j k L) (hs' : SK s' j k' L') (hl : l = [a] ∨ l = [a, b]) (hk : k ≤ k') (hL : L ≤ L') (e : yL [a] s = some base) : good yL base l s' := by
 have hR' : RS s' ≤ RS s := by
  rw [hs.vs.2.1, hs'.vs.2.1]
  have := hs.2.2.1; have := hs.2.1
  exact y82 (by omega) (by omega) hk
 have hLL : LS s ≤ LS s' := by rw [hs.vs.2.2, hs'.vs.2.2]; exact y4d hL
 have hRT := yaj ha hb hl
 rcases y7T (y6C ha hb (.inl rfl)) hs with ⟨c1, D⟩ | ⟨c1, P, M, D, fM, P0, P1, Pa, _, ⟨p1, hp1, em1⟩, hmax⟩
 ·rw [e] at D; cases D
  rcases y7T (y6C ha hb hl) hs' with ⟨c2, D'⟩ | ⟨c2, _⟩
  ·exact ⟨_, _, D', .inl rfl, fun _ => rfl, fun h => by cases h⟩
  ·exact absurd (show RS s' < RT l by grind) c2
 ·rw [e] at D; cases D
  rcases y7T (y6C ha hb hl) hs' with ⟨c2, D'⟩ | ⟨c2, P', M', D', fM', P0', P1', Pa', _, _, hmax'⟩
  ·exact ⟨_, _, D', .inl rfl, fun _ => rfl, fun _ h => absurd h (by decide)⟩
  ·refine ⟨_, _, D', .inr rfl, (fun h => by cases h), fun _ _ => ⟨_, y3k (y1G fM') (y1G fM), ?_⟩⟩
   rw [y12, y12]
   refine yai ?_
   rw [em1]
   exact yaB ha hb hl (RS_pos hs'.vs.1) hR' hLL (P1 p1 hp1).1 P0' P1' Pa' hmax' (Rat.not_lt.1 c2)
theorem y6l {base : R × Int} (ha : SC a) (hb : SC b) (hs : SK s j k L) (hs' : SK s' j k' L') (hl : l = [a] ∨ l = [a, b]) (hk : k ≤ k') (hL : L ≤ L') (e : yC [a] s = some base) : good yC base l s' := by
 have hR' : RS s' ≤ RS s := by
  rw [hs.vs.2.1, hs'.vs.2.1]
  have := hs.2.2.1; have := hs.2.1
  exact y82 (by omega) (by omega) hk
 have hRT := yaj ha hb hl
 rcases y6B (y6C ha hb (.inl rfl)) hs with ⟨c1, D⟩ | ⟨c1, P, M, D, fM, P0, P1, Pa, _, ⟨p1, hp1, em1⟩, hmax⟩
 ·rw [e] at D; cases D
  rcases y6B (y6C ha hb hl) hs' with ⟨c2, D'⟩ | ⟨c2, _⟩
  ·exact ⟨_, _, D', .inl rfl, fun _ => rfl, fun h => by cases h⟩
  ·exact absurd (show RS s' < RT l by grind) c2
 ·rw [e] at D; cases D
  rcases y6B (y6C ha hb hl) hs' with ⟨c2, D'⟩ | ⟨c2, P', M', D', fM', P0', P1', Pa', Pm', _, hmax'⟩
  ·exact ⟨_, _, D', .inl rfl, fun _ => rfl, fun _ h => absurd h (by decide)⟩
  ·refine ⟨_, _, D', .inr rfl, (fun h => by cases h), fun _ _ => ⟨_, y3k (y1G fM') (y1G fM), ?_⟩⟩
   rw [y12, y12]
   refine yai ?_
   rw [em1]
   have hb' := Pm' s'.fLatency (by simp)
   have eL : val s'.fLatency = WZ L' := hs'.vs.2.2
   rw [eL] at hb'
   exact y9M ha hb hl (RS_pos hs'.vs.1) hR' hL (P1 p1 hp1).1 P0' P1' Pa' hb' hmax' (Rat.not_lt.1 c2)
end law
theorem y8S {a b : List B} {x1 x2 base : R × Int} {y1 y2 : R} {k : Option Bool} {n : Nat} {E : List S62} {i : Int} (hi : 0 ≤ i ∧ i < 3) (hE : E.length = 3) (hg : good yL base (nth E i).fL (nth E i).fS) :
  yX a b x1 y1 y2 x2 base k (n + 1) E i = yX a b x1 y1 y2 x2 base k n E (i + 1) := by
 obtain ⟨v, h, e, h1, h2, h3⟩ := hg
 rw [yX, if_pos (by simp; omega), yn (by rw [hE]; omega)]
 refine (congrArg (fun o => Option.bind o _) (show yL (nth E i).fL _ = some (v, h) from e)).trans ?_
 rw [Option.bind_some, yr (x := i + 1) (by omega)]
 rcases h1 with rfl | rfl
 ·by_cases c0 : base.2 = 0
  ·simp [c0]
  ·simp [c0]
 ·have c6 : base.2 ≠ 6 := fun c => by have := h2 c; omega
  by_cases c0 : base.2 = 0
  ·obtain ⟨c, ec, nc⟩ := h3 c0 rfl
   simp [c0, ec, nc]
  ·simp [c0, c6]
theorem L3_all {a b : List B} {x1 x2 base : R × Int} {y1 y2 : R} {k : Option Bool} {e0 e1 e2 : S62} (h0 : good yL base e0.fL e0.fS) (h1 : good yL base e1.fL e1.fS) (h2 : good yL base e2.fL e2.fS) :
  yX a b x1 y1 y2 x2 base k ys [e0, e1, e2] 0 = k := by
 obtain ⟨n, hn⟩ : ∃ n, ys = n + 4 := ⟨ys - 4, by rw [y1V]⟩
 rw [hn, y8S (by omega) rfl (by exact h0), y8S (by omega) rfl (by exact h1), y8S (by omega) rfl (by exact h2), yX, if_neg (by simp)]
theorem y8T {a b : List B} {x1 x2 base : R × Int} {y1 y2 : R} {k : Option Bool} {n : Nat} {E : List S62} {i : Int} (hi : 0 ≤ i ∧ i < 3) (hE : E.length = 3) (hg : good yC base (nth E i).fL (nth E i).fS) :
  yY a b x1 y1 y2 x2 base k (n + 1) E i = yY a b x1 y1 y2 x2 base k n E (i + 1) := by
 obtain ⟨v, h, e, h1, h2, h3⟩ := hg
 rw [yY, if_pos (by simp; omega), yn (by rw [hE]; omega)]
 refine (congrArg (fun o => Option.bind o _) (show yC (nth E i).fL _ = some (v, h) from e)).trans ?_
 rw [Option.bind_some, yr (x := i + 1) (by omega)]
 rcases h1 with rfl | rfl
 ·by_cases c0 : base.2 = 0
  ·simp [c0]
  ·simp [c0]
 ·have c6 : base.2 ≠ 6 := fun c => by have := h2 c; omega
  by_cases c0 : base.2 = 0
  ·obtain ⟨c, ec, nc⟩ := h3 c0 rfl
   simp [c0, ec, nc]
  ·simp [c0, c6]
theorem L4_all {a b : List B} {x1 x2 base : R × Int} {y1 y2 : R} {k : Option Bool} {e0 e1 e2 : S62} (h0 : good yC base e0.fL e0.fS) (h1 : good yC base e1.fL e1.fS) (h2 : good yC base e2.fL e2.fS) :
  yY a b x1 y1 y2 x2 base k ys [e0, e1, e2] 0 = k := by
 obtain ⟨n, hn⟩ : ∃ n, ys = n + 4 := ⟨ys - 4, by rw [y1V]⟩
 rw [hn, y8T (by omega) rfl (by exact h0), y8T (by omega) rfl (by exact h1), y8T (by omega) rfl (by exact h2), yY, if_neg (by simp)]
theorem yb0 {r q : Int} (hr : 0 ≤ r ∧ r ≤ 255) (hq : 0 ≤ q ∧ q ≤ 255) : y1U (i64 (1 + (Int.tmod (i64 r) 160))) (i64 (8 + (Int.tmod (i64 q) 8))) = some (ofQ (Rat.divInt (1 + r % 160) (8 + q % 8)), 0) := by
 rw [yr (x := r) (by omega), yr (x := q) (by omega), y6P hr.1, y6P hq.1, yr (by omega), yr (by omega), y4G (by omega) (by omega), y5U (y2r (by omega) (by omega))]
theorem y7V {m n : List Int} {r d more : Int} (hm : ∀ x ∈ m, 0 ≤ x ∧ x ≤ 255) (hn : ∀ x ∈ n, 0 ≤ x ∧ x ≤ 255) (hr : 0 ≤ r ∧ r ≤ 255) (hd : 0 ≤ d ∧ d ≤ 255) (hq : 0 ≤ more ∧ more ≤ 255) : y2S m n r d more = some true := by
 obtain ⟨a, ea, ha⟩ := y9G hm
 obtain ⟨b, eb, hb⟩ := y9G hn
 have hj : 1 ≤ 1 + r % 160 ∧ 1 + r % 160 ≤ 160 := by omega
 unfold y2S
 rw [ea, Option.bind_some, eb, Option.bind_some, rate_ok8 hr, Option.bind_some, yb0 hr hq, Option.bind_some]
 unfold y1a
 rw [Option.bind_some, Option.bind_some, yr (x := d) (by omega), yr (x := more) (by omega), yr (x := d + more) (by omega), if_neg (by simp)]
 have hS : SK ⟨ofQ (Rat.divInt (1 + r % 160) 8), ⟨d, 1⟩⟩ (1 + r % 160) 8 d := ⟨rfl, hj, by omega, by omega⟩
 have hT : SK ⟨ofQ (Rat.divInt (1 + r % 160) 8), ⟨d + more, 1⟩⟩ (1 + r % 160) 8 (d + more) := ⟨rfl, hj, by omega, by omega⟩
 have hU : SK ⟨ofQ (Rat.divInt (1 + r % 160) (8 + more % 8)), ⟨d, 1⟩⟩ (1 + r % 160) (8 + more % 8) d := ⟨rfl, hj, by omega, by omega⟩
 have hD : ∃ base, yL [a] ⟨ofQ (Rat.divInt (1 + r % 160) 8), ⟨d, 1⟩⟩ = some base := by
  rcases y7T (y6C ha hb (.inl rfl)) hS with ⟨_, D⟩ | ⟨_, _, _, D, _⟩ <;> exact ⟨_, D⟩
 have hB : ∃ base, yC [a] ⟨ofQ (Rat.divInt (1 + r % 160) 8), ⟨d, 1⟩⟩ = some base := by
  rcases y6B (y6C ha hb (.inl rfl)) hS with ⟨_, D⟩ | ⟨_, _, _, D, _⟩ <;> exact ⟨_, D⟩
 obtain ⟨bd, eD⟩ := hD
 obtain ⟨bb, eB⟩ := hB
 refine y5V (P := fun o => o = _) fun k hk => ?_
 refine y5o (P := fun o => o = _) fun k2 hk2 => ?_
 rw [yn (by simp), eD, Option.bind_some]
 refine y5V (P := fun o => o = _) fun k3 hk3 => ?_
 refine Eq.trans (L3_all (y79 ha hb hS hS (.inr rfl) (by omega) (by omega) eD) (y79 ha hb hS hT (.inl rfl) (by omega) (by omega) eD) (y79 ha hb hS hU (.inl rfl) (by omega) (by omega) eD)) ?_
 rw [hk3, hk2]
 refine y5V (P := fun o => o = _) fun k4 hk4 => ?_
 rw [yn (by simp), eB, Option.bind_some]
 refine y5V (P := fun o => o = _) fun k5 hk5 => ?_
 refine Eq.trans (L4_all (y6l ha hb hS hS (.inr rfl) (by omega) (by omega) eB) (y6l ha hb hS hT (.inl rfl) (by omega) (by omega) eB) (y6l ha hb hS hU (.inl rfl) (by omega) (by omega) eB)) ?_
 rw [hk5, hk4, hk, awake_eq]
 rfl
end Go.Proofs.Ytakfmdiiehcbdaa
