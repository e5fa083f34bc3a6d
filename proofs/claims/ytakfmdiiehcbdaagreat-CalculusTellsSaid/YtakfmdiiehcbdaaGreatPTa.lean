/- A part of this claim's proof: models of functions, walks, plain laws. No conditions. -/
import Derived.Test.YtakfmdiiehcbdaaGreatPYu
namespace Go.Proofs.YtakfmdiiehcbdaaGreat
open Go Go.RowKit Sep
set_option linter.all false
abbrev SV := S41
def Z1 : R := ⟨0, 1⟩
theorem y73 : y1U = some Z1 := rfl
theorem V_Z1 : V Z1 = true := by decide +kernel
theorem ybk {RR A0 A1 A2 : Type} {K : A0 → A1 → A2 → Option RR} {F : (A0 → A1 → A2 → Option RR) → Option RR} {P : Option RR → Prop} (h : ∀ k : A0 → A1 → A2 → Option RR, (∀ x0 x1 x2, k x0 x1 x2 = K x0 x1 x2) → P (F k)) : P (jp3 K F) := h K fun _ _ _ => rfl
/-! ### operations agree -/
theorem y5S {x y : R} (h : ¬ (V x = true ∧ V y = true)) : (if !(V x) then some true else (some (V y)).bind fun v => some (!v)) = some true := by
 cases hx : V x with
 | false => rfl
 | true =>
  cases hy : V y with
  | false => rfl
  | true => exact absurd ⟨hx, hy⟩ h
theorem add_bad {x y : R} (h : ¬ (V x = true ∧ V y = true)) : y1o x y = some (⟨0, 0⟩, 2) := by
 unfold y1o y5M
 rw [yQ, yQ, Option.bind_some, y5S h]; rfl
theorem sub_bad {x y : R} (h : ¬ (V x = true ∧ V y = true)) : y1v x y = some (⟨0, 0⟩, 2) := by
 unfold y1v y6i
 rw [yQ, yQ, Option.bind_some, y5S h]; rfl
theorem mul_bad {x y : R} (h : ¬ (V x = true ∧ V y = true)) : y2X x y = some (⟨0, 0⟩, 2) := by
 unfold y2X y5O
 rw [yQ, yQ, Option.bind_some, y5S h]; rfl
theorem div_bad {x y : R} (h : ¬ (V x = true ∧ V y = true)) : y2g x y = some (⟨0, 0⟩, 2) := by
 unfold y2g y5L
 rw [yQ, yQ, Option.bind_some, y5S h]; rfl
theorem cmp_bad {x y : R} (h : ¬ (V x = true ∧ V y = true)) : yM x y = some 0 := by
 unfold yM
 rw [yQ, yQ, Option.bind_some, y5S h]; rfl
theorem rcmp_bad {x y : R} (h : ¬ (V x = true ∧ V y = true)) : yE x y = some 0 := by
 unfold yE
 rw [y1G, y1G, Option.bind_some, y5S h]; rfl
def ADD (x y : R) : R × Int := (y1o x y).getD (⟨0, 0⟩, 0)
def SUB (x y : R) : R × Int := (y1v x y).getD (⟨0, 0⟩, 0)
def MUL (x y : R) : R × Int := (y2X x y).getD (⟨0, 0⟩, 0)
def DIV (x y : R) : R × Int := (y2g x y).getD (⟨0, 0⟩, 0)
def CM (x y : R) : Int := (yM x y).getD 0
theorem y6p (x y : R) : y1o x y = some (ADD x y) ∧ yB 0 x y = some (ADD x y) := by
 unfold ADD
 by_cases h : V x = true ∧ V y = true
 ·rw [y9N h.1 h.2, ybN h.1 h.2]; exact ⟨rfl, rfl⟩
 ·rw [add_bad h, y90 h]; exact ⟨rfl, rfl⟩
theorem y92 (x y : R) : y1v x y = some (SUB x y) ∧ yB 1 x y = some (SUB x y) := by
 unfold SUB
 by_cases h : V x = true ∧ V y = true
 ·rw [y9O h.1 h.2, yac h.1 h.2]; exact ⟨rfl, rfl⟩
 ·rw [sub_bad h, y90 h]; exact ⟨rfl, rfl⟩
theorem mul_s (x y : R) : y2X x y = some (MUL x y) ∧ yB 2 x y = some (MUL x y) := by
 unfold MUL
 by_cases h : V x = true ∧ V y = true
 ·rw [yb4 h.1 h.2, ybO h.1 h.2]; exact ⟨rfl, rfl⟩
 ·rw [mul_bad h, y90 h]; exact ⟨rfl, rfl⟩
theorem div_s (x : R) {y : R} (h0 : y.fN ≠ 0) : y2g x y = some (DIV x y) ∧ yB 3 x y = some (DIV x y) := by
 unfold DIV
 by_cases h : V x = true ∧ V y = true
 ·rw [y9P h.1 h.2 h0, ybP h.1 h.2 h0]; exact ⟨rfl, rfl⟩
 ·rw [div_bad h, y90 h]; exact ⟨rfl, rfl⟩
theorem y6J (x y : R) : yM x y = some (CM x y) ∧ yE x y = some (CM x y) := by
 unfold CM
 by_cases h : V x = true ∧ V y = true
 ·rw [y67 h.1 h.2, y7U h.1 h.2]; exact ⟨rfl, rfl⟩
 ·rw [cmp_bad h, rcmp_bad h]; exact ⟨rfl, rfl⟩
theorem ADD_ok {x y : R} (hx : V x = true) (hy : V y = true) : ((ADD x y).2 = 0 ∧ V (ADD x y).1 = true) ∨ (ADD x y).2 = 3 := by
 unfold ADD
 rw [y9N hx hy]
 show ((mk _).2 = 0 ∧ V (mk _).1 = true) ∨ (mk _).2 = 3
 unfold mk
 split
 ·rename_i h; exact .inl ⟨rfl, y5i h⟩
 ·exact .inr rfl
/-! ### rounding -/
theorem y8k {N D : Int} (hD : 0 < D) : ∃ f : Int, (f = if Int.tmod N D < 0 then Int.tdiv N D - 1 else Int.tdiv N D) ∧ f * D ≤ N ∧ N < (f + 1) * D := by
 have h1 := Int.mul_tdiv_add_tmod N D
 have h2 : Int.tmod N D < D := Int.tmod_lt_of_pos N hD
 have h3 : -D < Int.tmod N D := by
  have h4 := Int.tmod_lt_of_pos (-N) hD
  rw [Int.neg_tmod] at h4
  omega
 by_cases h : Int.tmod N D < 0
 ·refine ⟨_, rfl, ?_⟩
  rw [if_pos h]
  have e1 : (Int.tdiv N D - 1) * D = D * Int.tdiv N D - D := by rw [Int.sub_mul, Int.one_mul, Int.mul_comm]
  have e2 : (Int.tdiv N D - 1 + 1) * D = D * Int.tdiv N D := by rw [Int.sub_add_cancel, Int.mul_comm]
  rw [e1, e2]
  omega
 ·refine ⟨_, rfl, ?_⟩
  rw [if_neg h]
  have e1 : Int.tdiv N D * D = D * Int.tdiv N D := Int.mul_comm _ _
  have e2 : (Int.tdiv N D + 1) * D = D * Int.tdiv N D + D := by rw [Int.add_mul, Int.one_mul, Int.mul_comm]
  rw [e1, e2]
  omega
theorem fl_bd {f N D : Int} (hD : 1 ≤ D) (hN : -1073741824 ≤ N ∧ N ≤ 1073741824) (h1 : f * D ≤ N) (h2 : N < (f + 1) * D) : -1073741824 ≤ f ∧ f ≤ 1073741824 := by
 constructor
 ·refine Int.not_lt.1 fun h => ?_
  have := Int.mul_le_mul_of_nonneg_left hD (show 0 ≤ -(f + 1) by omega)
  have e : -(f + 1) * D = -((f + 1) * D) := Int.neg_mul _ _
  omega
 ·refine Int.not_lt.1 fun h => ?_
  have := Int.mul_le_mul_of_nonneg_left hD (show 0 ≤ f by omega)
  omega
theorem y9v {x : R} (hx : V x = true) : ∃ f : Int, y1s x = some f ∧ f * x.fD ≤ x.fN ∧ x.fN < (f + 1) * x.fD ∧ -1073741824 ≤ f ∧ f ≤ 1073741824 := by
 have hv := hx
 simp only [V, decide_eq_true_eq] at hv
 obtain ⟨f, hf, h1, h2⟩ := y8k (N := x.fN) (D := x.fD) (by omega)
 have hb := fl_bd hv.1 (by omega) h1 h2
 refine ⟨f, ?_, h1, h2, hb⟩
 unfold y1s
 rw [yQ, hx, Option.bind_some, if_neg (by simp), ym (by omega)]
 simp only [jp1]
 rw [ym (by omega)]
 have hq : -1073741824 ≤ Int.tdiv x.fN x.fD ∧ Int.tdiv x.fN x.fD ≤ 1073741825 := by
  by_cases h : Int.tmod x.fN x.fD < 0
  ·rw [if_pos h] at hf; omega
  ·rw [if_neg h] at hf; omega
 by_cases h : Int.tmod x.fN x.fD < 0
 ·rw [if_pos (decide_eq_true h), yq (x := Int.tdiv x.fN x.fD) (by omega), yq (by omega), hf, if_pos h]
 ·rw [if_neg (by simpa using h), yq (by omega), hf, if_neg h]
theorem ybQ {x : R} (hx : V x = true) : ∃ e : Int, y1N x = some e ∧ (e - 1) * x.fD < x.fN ∧ x.fN ≤ e * x.fD ∧ -1073741824 ≤ e ∧ e ≤ 1073741824 := by
 have hv := hx
 simp only [V, decide_eq_true_eq] at hv
 have hn : V ⟨-x.fN, x.fD⟩ = true := by
  unfold V
  rw [decide_eq_true_eq]
  refine ⟨hv.1, hv.2.1, by show -1073741824 ≤ -x.fN; omega, by show -x.fN ≤ 1073741824; omega, ?_⟩
  show Nat.gcd (-x.fN).natAbs x.fD.natAbs = 1
  rw [Int.natAbs_neg]; exact hv.2.2.2.2
 obtain ⟨f, ef, f1, f2, f3, f4⟩ := y9v hn
 have f1 : f * x.fD ≤ -x.fN := f1
 have f2 : -x.fN < (f + 1) * x.fD := f2
 refine ⟨-f, ?_, ?_, ?_, by omega, by omega⟩
 ·unfold y1N
  rw [yQ, hx, Option.bind_some, if_neg (by simp), yq (x := 0 - x.fN) (by omega), show (0 : Int) - x.fN = -x.fN by omega, ef, Option.bind_some, yq (by omega)]
  congr 1; omega
 ·have e : (-f - 1) * x.fD = -((f + 1) * x.fD) := by rw [show -f - 1 = -(f + 1) by omega, Int.neg_mul]
  rw [e]; omega
 ·rw [Int.neg_mul]; omega
theorem ybR {D N f g : Int} (hD : 0 < D) (f1 : f * D ≤ N) (f2 : N < (f + 1) * D) (g1 : g * D ≤ N) (g2 : N < (g + 1) * D) : f = g := by
 have h : ∀ {a b : Int}, a * D ≤ N → N < (b + 1) * D → ¬ b < a := by
  intro a b h1 h2 h3
  have := Int.mul_le_mul_of_nonneg_right (show b + 1 ≤ a by omega) (show 0 ≤ D by omega)
  omega
 have := h f1 g2
 have := h g1 f2
 omega
theorem ybS {D N e g : Int} (hD : 0 < D) (e1 : (e - 1) * D < N) (e2 : N ≤ e * D) (g1 : (g - 1) * D < N) (g2 : N ≤ g * D) : e = g := by
 have h : ∀ {a b : Int}, (a - 1) * D < N → N ≤ b * D → ¬ b < a := by
  intro a b h1 h2 h3
  have := Int.mul_le_mul_of_nonneg_right (show b ≤ a - 1 by omega) (show 0 ≤ D by omega)
  omega
 have := h e1 g2
 have := h g1 e2
 omega
theorem yat {N D : Int} (hD : 0 < D) : (Int.tdiv N D * D ≤ N ∧ N < (Int.tdiv N D + 1) * D ∧ (Int.tdiv N D - 1) * D < N) ∨ (N < Int.tdiv N D * D ∧ (Int.tdiv N D - 1) * D < N) := by
 have h1 := Int.mul_tdiv_add_tmod N D
 have h2 : Int.tmod N D < D := Int.tmod_lt_of_pos N hD
 have h3 : -D < Int.tmod N D := by
  have h4 := Int.tmod_lt_of_pos (-N) hD
  rw [Int.neg_tmod] at h4
  omega
 have e0 : Int.tdiv N D * D = D * Int.tdiv N D := Int.mul_comm _ _
 have e1 : (Int.tdiv N D - 1) * D = D * Int.tdiv N D - D := by rw [Int.sub_mul, Int.one_mul, Int.mul_comm]
 have e2 : (Int.tdiv N D + 1) * D = D * Int.tdiv N D + D := by rw [Int.add_mul, Int.one_mul, Int.mul_comm]
 rw [e0, e1, e2]
 omega
theorem ycz {x : R} (hx : V x = true) : y2M x = y1s x := by
 have hv := hx
 simp only [V, decide_eq_true_eq] at hv
 obtain ⟨f, ef, f1, f2, f3, f4⟩ := y9v hx
 have hD : 0 < x.fD := by omega
 rw [ef]
 unfold y2M
 rw [y1G, hx, Option.bind_some, if_neg (by simp), ym (by omega)]
 refine y2p (P := fun o => o = some f) fun k hk => ?_
 obtain ⟨n, hn⟩ : ∃ n, yu = n + 2 := ⟨yu - 2, by rw [yU]⟩
 have hq := yat (N := x.fN) (D := x.fD) hD
 have hf := y8k (N := x.fN) (D := x.fD) hD
 have hb : -1073741825 ≤ Int.tdiv x.fN x.fD ∧ Int.tdiv x.fN x.fD ≤ 1073741825 := by
  obtain ⟨f', e', a1, a2⟩ := hf
  have := fl_bd (by omega) ⟨by omega, by omega⟩ a1 a2
  split at e' <;> omega
 rw [yq (by omega), hn, y2Q]
 have e1 : (Int.tdiv x.fN x.fD - 1) * x.fD = Int.tdiv x.fN x.fD * x.fD - x.fD := by rw [Int.sub_mul, Int.one_mul]
 have e2 : (Int.tdiv x.fN x.fD + 1) * x.fD = Int.tdiv x.fN x.fD * x.fD + x.fD := by rw [Int.add_mul, Int.one_mul]
 rcases hq with ⟨a1, a2, a3⟩ | ⟨a1, a2⟩
 ·rw [yq (x := Int.tdiv x.fN x.fD * x.fD) (by omega), if_neg (by simpa using a1), hk, ybR hD a1 a2 f1 f2]
 ·rw [yq (x := Int.tdiv x.fN x.fD * x.fD) (by omega), if_pos (decide_eq_true a1), yq (x := Int.tdiv x.fN x.fD - 1) (by omega), y2Q, yq (x := (Int.tdiv x.fN x.fD - 1) * x.fD) (by omega), if_neg (by simp only [decide_eq_true_eq]; omega), hk]
  congr 1
  exact ybR hD (by omega) (by rw [Int.sub_add_cancel]; exact a1) f1 f2
theorem rceil_eq {x : R} (hx : V x = true) : y3e x = y1N x := by
 have hv := hx
 simp only [V, decide_eq_true_eq] at hv
 obtain ⟨f, ef, f1, f2, f3, f4⟩ := ybQ hx
 have hD : 0 < x.fD := by omega
 rw [ef]
 unfold y3e
 rw [y1G, hx, Option.bind_some, if_neg (by simp), ym (by omega)]
 refine y2p (P := fun o => o = some f) fun k hk => ?_
 obtain ⟨n, hn⟩ : ∃ n, yu = n + 2 := ⟨yu - 2, by rw [yU]⟩
 have hq := yat (N := x.fN) (D := x.fD) hD
 have hf := y8k (N := x.fN) (D := x.fD) hD
 have hb : -1073741825 ≤ Int.tdiv x.fN x.fD ∧ Int.tdiv x.fN x.fD ≤ 1073741825 := by
  obtain ⟨f', e', a1, a2⟩ := hf
  have := fl_bd (by omega) ⟨by omega, by omega⟩ a1 a2
  split at e' <;> omega
 rw [yq (by omega), hn, y3d]
 have e1 : (Int.tdiv x.fN x.fD - 1) * x.fD = Int.tdiv x.fN x.fD * x.fD - x.fD := by rw [Int.sub_mul, Int.one_mul]
 have e2 : (Int.tdiv x.fN x.fD + 1) * x.fD = Int.tdiv x.fN x.fD * x.fD + x.fD := by rw [Int.add_mul, Int.one_mul]
 by_cases h : Int.tdiv x.fN x.fD * x.fD < x.fN
 ·rw [yq (x := Int.tdiv x.fN x.fD * x.fD) (by omega), if_pos (decide_eq_true h), yq (x := Int.tdiv x.fN x.fD + 1) (by omega), y3d, yq (x := (Int.tdiv x.fN x.fD + 1) * x.fD) (by omega), if_neg (by simp only [decide_eq_true_eq]; omega), hk]
  congr 1
  exact ybS hD (by rw [Int.add_sub_cancel]; exact h) (by omega) f1 f2
 ·rw [yq (x := Int.tdiv x.fN x.fD * x.fD) (by omega), if_neg (by simpa using h), hk]
  congr 1
  exact ybS hD (by omega) (by omega) f1 f2
def flr (x : R) : Int := (y1s x).getD 0
def cel (x : R) : Int := (y1N x).getD 0
theorem y9T (x : R) : y1s x = some (flr x) ∧ y2M x = some (flr x) := by
 unfold flr
 cases hx : V x with
 | true =>
  rw [ycz hx]
  obtain ⟨f, ef, _⟩ := y9v hx
  rw [ef]; exact ⟨rfl, rfl⟩
 | false =>
  have h1 : y1s x = some 0 := by unfold y1s; rw [yQ, hx]; rfl
  have h2 : y2M x = some 0 := by unfold y2M; rw [y1G, hx]; rfl
  rw [h1, h2]; exact ⟨rfl, rfl⟩
theorem y9U (x : R) : y1N x = some (cel x) ∧ y3e x = some (cel x) := by
 unfold cel
 cases hx : V x with
 | true =>
  rw [rceil_eq hx]
  obtain ⟨f, ef, _⟩ := ybQ hx
  rw [ef]; exact ⟨rfl, rfl⟩
 | false =>
  have h1 : y1N x = some 0 := by unfold y1N; rw [yQ, hx]; rfl
  have h2 : y3e x = some 0 := by unfold y3e; rw [y1G, hx]; rfl
  rw [h1, h2]; exact ⟨rfl, rfl⟩
def y3R (r : List R) : List R := r.flatMap fun x => [⟨flr x, 1⟩, ⟨cel x, 1⟩]
theorem y9w (r : List R) : (y3R r).length = 2 * r.length := by
 unfold y3R
 induction r with
 | nil => rfl
 | cons x r ih => rw [List.flatMap_cons, List.length_append, ih]; simp; omega
theorem y9b {l : List R} {k : List R → Option (List R)} (hl : l.length ≤ 10000) : ∀ (n : Nat) (i : Int) (o : List R), 0 ≤ i → i ≤ l.length → l.length < n + i → (o.length : Int) ≤ 2 * i → y2t l k n o i = k (o ++ y3R (l.drop i.toNat))
 | 0, i, o, h0, h1, h2, h3 => by omega
 | n + 1, i, o, h0, h1, h2, h3 => by
  rw [y2t]
  by_cases h : i < l.length
  ·rw [if_pos (decide_eq_true h), ym ⟨h0, h⟩]
   show ((y2M (nth l i)).bind fun x => (y3e (nth l i)).bind _) = _
   rw [(y9T _).2, Option.bind_some, (y9U _).2, Option.bind_some, ym (by simp; omega), yq (by omega), y9b hl n (i + 1) _ (by omega) (by omega) (by omega) (by simp; omega), y1n h0 h]
   unfold y3R
   rw [List.flatMap_cons]; simp
  ·rw [if_neg (by simpa using h), y1y h]
   simp [y3R]
theorem yau {l : List R} (hl : l.length ≤ 10000) : y3V l = some (y3R l) := by
 unfold y3V
 refine y2p (P := fun o => o = some (y3R l)) fun k hk => ?_
 rw [y9b hl yu 0 [] (by omega) (by omega) (by rw [yU]; omega) (by simp), hk]
 rfl
/-! ### servers -/
def VS (s : SV) : Bool := (V s.fR && decide (s.fR.fN > 0) && V s.fL) && decide (s.fL.fN ≥ 0)
theorem y6B (s : SV) : y1Y s = some (VS s) := by
 unfold y1Y VS
 rw [yQ, yQ, Option.bind_some, Option.bind_some]
 cases V s.fR <;> cases decide (s.fR.fN > 0) <;> simp
theorem y5k (s : SV) : y3m s = some (VS s) := by
 unfold y3m VS
 rw [y1G, y7k, Option.bind_some, Option.bind_some]
 unfold GR
 cases V s.fR <;> cases decide (s.fR.fN > 0) <;> simp
theorem VS_r {s : SV} (h : VS s = true) : V s.fR = true ∧ 0 < s.fR.fN ∧ V s.fL = true ∧ 0 ≤ s.fL.fN := by
 simp only [VS, Bool.and_eq_true, decide_eq_true_eq] at h
 exact ⟨h.1.1.1, h.1.1.2, h.1.2, h.2⟩
/-! ### the calculator that keeps the first error -/
def CD (e : Int) (r : R × Int) : R × Int := if e ≠ 0 then (Z1, e) else if r.2 ≠ 0 then (Z1, r.2) else r
theorem cdo {e : Int} {f : R → R → Option (R × Int)} {x y : R} {r : R × Int} (h : f x y = some r) : yO ⟨e⟩ f x y = some ((CD e r).1, ⟨(CD e r).2⟩) := by
 unfold yO CD
 rw [h, y73]
 by_cases he : e ≠ 0
 ·rw [if_pos (by simpa using he), if_pos he]; rfl
 ·rw [if_neg (by simpa using he), if_neg he, Option.bind_some]
  by_cases hr : r.2 ≠ 0
  ·rw [if_pos (by simpa using hr), if_pos hr]; rfl
  ·rw [if_neg (by simpa using hr), if_neg hr]
theorem y56 {e : Int} (he : e ≠ 0) (r : R × Int) : CD e r = (Z1, e) := if_pos he
theorem y5T {r : R × Int} (h : r.2 = 0) : CD 0 r = r := by unfold CD; rw [if_neg (by simp), if_neg (by simpa using h)]
theorem y6C {r : R × Int} (h : r.2 ≠ 0) : CD 0 r = (Z1, r.2) := by unfold CD; rw [if_neg (by simp), if_pos h]
end Go.Proofs.YtakfmdiiehcbdaaGreat
