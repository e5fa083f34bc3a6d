/- A part of this claim's proof: models of functions, walks, plain laws. No conditions. -/
import Derived.Test.YtakfmdiiehcbdaaGreatPZa
namespace Go.Proofs.YtakfmdiiehcbdaaGreat
open Go Go.RowKit Sep
set_option linter.all false
theorem mulb {a b : Int} (ha : a.natAbs ≤ 1073741824) (hb : b.natAbs ≤ 1073741824) : (a * b).natAbs ≤ 1152921504606846976 := by
 rw [Int.natAbs_mul]
 exact Nat.mul_le_mul ha hb
theorem V_bd {x : R} (h : V x = true) : x.fN.natAbs ≤ 1073741824 ∧ x.fD.natAbs ≤ 1073741824 ∧ 1 ≤ x.fD := by
 simp only [V, decide_eq_true_eq] at h; omega
theorem D_ne {x y : R} (hx : V x = true) (hy : V y = true) : x.fD * y.fD ≠ 0 := Int.mul_ne_zero (by have := V_bd hx; omega) (by have := V_bd hy; omega)
theorem add_eq {x y : R} (hx : V x = true) (hy : V y = true) : m_rat_Add x y = some (mk (val x + val y)) := by
 have bx := V_bd hx; have b2 := V_bd hy
 have h1 := mulb bx.1 b2.2.1; have h2 := mulb b2.1 bx.2.1; have h3 := mulb bx.2.1 b2.2.1
 unfold m_rat_Add m_rat_doc m_rat_do_1
 rw [valid_eq, valid_eq, hx, hy]
 simp only [Option.bind_some, Bool.not_true, Bool.false_eq_true, if_false]
 rw [i64_id (x := x.fN * y.fD) (by omega), i64_id (x := y.fN * x.fD) (by omega), i64_id (by omega), i64_id (by omega), make_eq (D_ne hx hy) (by omega)]
 rw [val, val, Rat.divInt_add_divInt _ _ (by omega) (by omega)]
 rfl
theorem mul_eq {x y : R} (hx : V x = true) (hy : V y = true) : m_rat_Mul x y = some (mk (val x * val y)) := by
 have bx := V_bd hx; have b2 := V_bd hy
 have h1 := mulb bx.1 b2.1; have h3 := mulb bx.2.1 b2.2.1
 unfold m_rat_Mul m_rat_dod m_rat_do_3
 rw [valid_eq, valid_eq, hx, hy]
 simp only [Option.bind_some, Bool.not_true, Bool.false_eq_true, if_false]
 rw [i64_id (by omega), i64_id (by omega), make_eq (D_ne hx hy) (by omega)]
 rw [val, val, Rat.divInt_mul_divInt]
 rfl
def cmpQ (p q : Rat) : Int := if p < q then -1 else if q < p then 1 else 0
theorem lt_val {x y : R} (hx : V x = true) (hy : V y = true) : val x < val y ↔ x.fN * y.fD < y.fN * x.fD := by
 rw [Rat.lt_iff, (V_num hx).1, (V_num hx).2, (V_num hy).1, (V_num hy).2]
theorem cmp_eq {x y : R} (hx : V x = true) (hy : V y = true) : m_rat_Cmp x y = some (cmpQ (val x) (val y)) := by
 have bx := V_bd hx; have b2 := V_bd hy
 have h1 := mulb bx.1 b2.2.1; have h2 := mulb b2.1 bx.2.1
 unfold m_rat_Cmp cmpQ
 rw [valid_eq, valid_eq, hx, hy]
 simp only [Option.bind_some, Bool.not_true, Bool.false_eq_true, if_false, decide_eq_true_eq]
 rw [i64_id (x := x.fN * y.fD) (by omega), i64_id (x := y.fN * x.fD) (by omega)]
 simp only [lt_val hx hy, lt_val hy hx]
 by_cases h : x.fN * y.fD < y.fN * x.fD
 ·simp [h]
 ·by_cases h' : y.fN * x.fD < x.fN * y.fD <;> simp [h, h']
theorem cmpQ_le {p q : Rat} : cmpQ p q ≤ 0 ↔ p ≤ q := by unfold cmpQ; grind
theorem cmpQ_lt {p q : Rat} : cmpQ p q < 0 ↔ p < q := by unfold cmpQ; grind
theorem cmpQ_gt {p q : Rat} : 0 < cmpQ p q ↔ q < p := by unfold cmpQ; grind
/-! ### buckets -/
abbrev B := z1
def GR (x : R) : Bool := V x && decide (0 ≤ x.fN)
def GB (b : B) : Bool := GR b.fBurst && GR b.fRate
def bq (b : B) : Rat := val b.fBurst
def rq (b : B) : Rat := val b.fRate
theorem GR_V {x : R} (h : GR x = true) : V x = true := by simp [GR] at h; exact h.1
theorem GB_b {b : B} (h : GB b = true) : GR b.fBurst = true := by simp [GB] at h; exact h.1
theorem GB_r {b : B} (h : GB b = true) : GR b.fRate = true := by simp [GB] at h; exact h.2
theorem good_eq (x : R) : m_curve_good x = some (GR x) := by unfold m_curve_good GR; rw [valid_eq, Option.bind_some]
theorem valid1_eq (b : B) : m_curve_Valid_1 b = some (!GB b) := by
 unfold m_curve_Valid_1 GB
 rw [good_eq, good_eq]
 cases GR b.fBurst <;> simp
theorem containsF {s : List B} {f : B → Option Bool} {p : B → Bool} (hf : ∀ x ∈ s, f x = some (p x)) (hs : (s.length : Int) ≤ 4611686018427387000) : m_slices_ContainsFunc_api_Curve_api_Bucket s f = some (s.any p) :=
 contains_func (index_func (L := fun k => m_slices_IndexFunc_api_Curve_api_Bucket_L2 s f k) (fun _ _ _ => rfl) hf hs)
def VC (c : List B) : Bool := decide (1 ≤ c.length ∧ c.length ≤ 32) && c.all GB
theorem curve_valid (c : List B) : m_curve_Valid c = some (VC c) := by
 unfold m_curve_Valid VC
 by_cases h : 1 ≤ c.length ∧ c.length ≤ 32
 ·rw [if_pos (by simp; omega), containsF (p := fun b => !GB b) (fun x _ => valid1_eq x) (by omega)]
  simp only [Option.bind_some, h, and_self, decide_true, Bool.true_and]
  congr 1
  rw [List.all_eq_not_any_not]
 ·rw [if_neg (by simp; omega)]
  simp [h]
theorem VC_all {c : List B} (h : VC c = true) : ∀ b ∈ c, GB b = true := by simp [VC] at h; exact h.2
theorem VC_len {c : List B} (h : VC c = true) : 1 ≤ c.length ∧ c.length ≤ 32 := by simp [VC] at h; omega
/-! ### the normal form -/
/-! sorting by a key -/
end Go.Proofs.YtakfmdiiehcbdaaGreat
