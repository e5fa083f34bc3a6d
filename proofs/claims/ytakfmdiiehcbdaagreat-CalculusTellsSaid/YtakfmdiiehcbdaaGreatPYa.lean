/- A part of this claim's proof: models of functions, walks, plain laws. No conditions. -/
import Derived.Test.YtakfmdiiehcbdaaGreatW03Zf
namespace Go.Proofs.YtakfmdiiehcbdaaGreat
open Go Go.RowKit Sep
set_option linter.all false
abbrev R := z1
theorem y54 {x : Int} (h : 0 ≤ x ∧ x ≤ 18446744073709551615) : u64 x = x := by
 unfold u64 IntKind.wrap; simp [IntKind.signed, IntKind.bits]; omega
theorem y72 {n : Int} (h : -9223372036854775808 ≤ n ∧ n ≤ 9223372036854775807) : y4f n = some (n.natAbs : Int) := by
 unfold y4f
 by_cases hn : n < 0
 ·rw [if_pos (by simpa using hn)]
  rw [yq (x := n + 1) (by omega), yq (x := 0 - (n + 1)) (by omega), y54 (x := 0 - (n + 1)) (by omega), y54 (by omega)]
  congr 1; omega
 ·rw [if_neg (by simpa using hn), y54 (by omega)]
  congr 1; omega
theorem y8f (x y : Nat) : Int.tmod (x : Int) (y : Int) = ((x % y : Nat) : Int) := rfl
theorem yb2 {k : Int → Option Int} : ∀ (m n x y : Nat), y < 2 ^ m → 2 * m < n → y1D k n x y = k (Nat.gcd x y : Nat)
 | 0, n + 1, x, y, hy, _ => by
  have : y = 0 := by omega
  subst this
  rw [y1D]; simp
 | m + 1, n + 2, x, y, hy, hn => by
  rw [y1D]
  by_cases h0 : y = 0
  ·subst h0; simp
  ·rw [if_pos (by simpa using h0), ym (by simpa using h0), y8f]
   rw [y1D]
   have hg : Nat.gcd x y = Nat.gcd y (x % y) := by rw [Nat.gcd_comm x y, Nat.gcd_rec, Nat.gcd_comm]
   by_cases h1 : x % y = 0
   ·rw [h1] at hg ⊢; simp [hg]
   ·have h1' : ((x % y : Nat) : Int) ≠ 0 := fun h => h1 (by exact_mod_cast h)
    rw [if_pos (decide_eq_true h1'), ym h1', y8f]
    have hr : x % y < y := Nat.mod_lt _ (by omega)
    have hg2 : Nat.gcd y (x % y) = Nat.gcd (x % y) (y % (x % y)) := by rw [Nat.gcd_comm y (x % y), Nat.gcd_rec, Nat.gcd_comm]
    rw [yb2 m n (x % y) (y % (x % y)) ?_ (by omega), hg, hg2]
    have h2 : y % (x % y) < x % y := Nat.mod_lt _ (by omega)
    have h3 : 2 * (y % (x % y)) ≤ y := by
     have h4 := Nat.div_add_mod y (x % y)
     have h5 : 1 ≤ y / (x % y) := (Nat.one_le_div_iff (by omega)).2 (by omega)
     have h6 : x % y * 1 ≤ x % y * (y / (x % y)) := Nat.mul_le_mul_left _ h5
     omega
    have h7 : 2 ^ (m + 1) = 2 * 2 ^ m := by rw [Nat.pow_succ, Nat.mul_comm]
    omega
theorem yb3 {x y : Nat} (hy : y < 2 ^ 64) : y3u x y = some ((Nat.gcd x y : Nat) : Int) := by
 unfold y3u
 simp only [jp1]
 exact yb2 64 yu x y hy (by rw [yU]; omega)
/-! ### numbers -/
def fits (q : Rat) : Bool := decide (q.num.natAbs ≤ 1073741824 ∧ q.den ≤ 1073741824)
def ofQ (q : Rat) : R := ⟨q.num, (q.den : Int)⟩
def val (x : R) : Rat := Rat.divInt x.fN x.fD
def V (x : R) : Bool := decide (1 ≤ x.fD ∧ x.fD ≤ 1073741824 ∧ -1073741824 ≤ x.fN ∧ x.fN ≤ 1073741824 ∧ Nat.gcd x.fN.natAbs x.fD.natAbs = 1)
theorem y4d (q : Rat) : val (ofQ q) = q := Rat.num_divInt_den q
theorem y5i {q : Rat} (h : fits q = true) : V (ofQ q) = true := by
 simp only [fits, decide_eq_true_eq] at h
 have hr := q.reduced
 have hd := q.den_pos
 unfold V ofQ
 rw [decide_eq_true_eq]
 refine ⟨by show (1 : Int) ≤ (q.den : Int); omega, by show (q.den : Int) ≤ 1073741824; omega, by show _ ≤ q.num; omega, by show q.num ≤ _; omega, hr⟩
theorem y8V {x : R} (h : V x = true) : (val x).num = x.fN ∧ ((val x).den : Int) = x.fD := by
 simp only [V, decide_eq_true_eq] at h
 obtain ⟨h1, h2, h3, h4, h5⟩ := h
 have hg : Int.gcd x.fD x.fN = 1 := by rw [Int.gcd, Nat.gcd_comm]; exact h5
 constructor
 ·rw [val, Rat.num_divInt, hg, Int.sign_eq_one_of_pos (by omega)]; simp
 ·rw [val, Rat.den_divInt, hg, if_neg (by omega)]; simp; omega
theorem y8W {x : R} (h : V x = true) : ofQ (val x) = x := by
 obtain ⟨h1, h2⟩ := y8V h
 simp only [ofQ, h1, h2]
theorem y8X {x y : R} (hx : V x = true) (hy : V y = true) (h : val x = val y) : x = y := by rw [← y8W hx, ← y8W hy, h]
def mk (q : Rat) : R × Int := if fits q then (ofQ q, 0) else (⟨0, 0⟩, 3)
theorem y5j {n d : Int} (hd : d ≠ 0) (h : n.natAbs ≤ 4611686018427387904 ∧ d.natAbs ≤ 4611686018427387904) : y3Q n d = some (mk (Rat.divInt n d)) := by
 unfold y3Q
 rw [if_neg (by simpa using hd), y72 (by omega), y72 (by omega), Option.bind_some, Option.bind_some, yb3 (by omega), Option.bind_some]
 have hg : 0 < Nat.gcd n.natAbs d.natAbs := Nat.gcd_pos_of_pos_right _ (by omega)
 rw [ym (by omega)]
 have hn := Nat.div_le_self n.natAbs (Nat.gcd n.natAbs d.natAbs)
 have hdd := Nat.div_le_self d.natAbs (Nat.gcd n.natAbs d.natAbs)
 have en : u64 (Int.tdiv (n.natAbs : Int) (Nat.gcd n.natAbs d.natAbs : Nat)) = ((n.natAbs / Nat.gcd n.natAbs d.natAbs : Nat) : Int) := y54 ⟨Int.natCast_nonneg _, by
  show ((n.natAbs / Nat.gcd n.natAbs d.natAbs : Nat) : Int) ≤ _
  omega⟩
 have ed : u64 (Int.tdiv (d.natAbs : Int) (Nat.gcd n.natAbs d.natAbs : Nat)) = ((d.natAbs / Nat.gcd n.natAbs d.natAbs : Nat) : Int) := y54 ⟨Int.natCast_nonneg _, by
  show ((d.natAbs / Nat.gcd n.natAbs d.natAbs : Nat) : Int) ≤ _
  omega⟩
 rw [en, ed]
 have hG : Int.gcd d n = Nat.gcd n.natAbs d.natAbs := by rw [Int.gcd, Nat.gcd_comm]
 have qd : (Rat.divInt n d).den = d.natAbs / Nat.gcd n.natAbs d.natAbs := by rw [Rat.den_divInt, if_neg hd, hG]
 have qn : (Rat.divInt n d).num = if (decide (n < 0)) != (decide (d < 0)) then -((n.natAbs / Nat.gcd n.natAbs d.natAbs : Nat) : Int) else ((n.natAbs / Nat.gcd n.natAbs d.natAbs : Nat) : Int) := by
  rw [Rat.num_divInt, hG]
  have hdv : (Nat.gcd n.natAbs d.natAbs : Int) ∣ (n.natAbs : Int) := Int.natCast_dvd_natCast.2 (Nat.gcd_dvd_left _ _)
  rcases Int.lt_or_le n 0 with h1 | h1 <;> rcases Int.lt_or_le d 0 with h2 | h2
  ·rw [Int.sign_eq_neg_one_of_neg h2, show (-1 : Int) * n = (n.natAbs : Int) by omega]
   simp [h1, h2]
  ·rw [Int.sign_eq_one_of_pos (by omega), show (1 : Int) * n = -(n.natAbs : Int) by omega, Int.neg_ediv_of_dvd hdv]
   have h2' : ¬ d < 0 := by omega
   simp [h1, h2']
  ·rw [Int.sign_eq_neg_one_of_neg h2, show (-1 : Int) * n = -(n.natAbs : Int) by omega, Int.neg_ediv_of_dvd hdv]
   have h1' : ¬ n < 0 := by omega
   simp [h2, h1']
  ·rw [Int.sign_eq_one_of_pos (by omega), show (1 : Int) * n = (n.natAbs : Int) by omega]
   have h1' : ¬ n < 0 := by omega
   have h2' : ¬ d < 0 := by omega
   simp [h2', h1']
 generalize hA : n.natAbs / Nat.gcd n.natAbs d.natAbs = A at *
 generalize hB : d.natAbs / Nat.gcd n.natAbs d.natAbs = B at *
 have hqn : (Rat.divInt n d).num.natAbs = A := by rw [qn]; split <;> omega
 unfold mk fits
 rw [hqn, qd]
 by_cases hf : A ≤ 1073741824 ∧ B ≤ 1073741824
 ·rw [if_neg (by simp; omega)]
  simp only [jp1, hf, and_self, decide_true, if_true]
  rw [yq (x := (A : Int)) (by omega), yq (x := (B : Int)) (by omega), yq (by omega)]
  unfold ofQ
  rw [qd, qn]
  split <;> simp
 ·rw [if_pos (by simp; omega)]
  simp only [hf, decide_false]
  rfl
theorem yQ (x : R) : y1m x = some (V x) := by
 unfold y1m V
 by_cases h : (x.fD ≥ 1 ∧ x.fD ≤ 1073741824 ∧ x.fN ≥ (-1073741824) ∧ x.fN ≤ 1073741824)
 ·rw [if_pos (by simp; omega), y72 (by omega), y72 (by omega), Option.bind_some, Option.bind_some, yb3 (by omega), Option.bind_some, Option.bind_some]
  congr 1
  rw [Bool.eq_iff_iff]
  simp only [decide_eq_true_eq]
  omega
 ·rw [if_neg (by simp; omega), Option.bind_some]
  congr 1
  symm
  rw [decide_eq_false_iff_not]
  omega
end Go.Proofs.YtakfmdiiehcbdaaGreat
