/- A part of this claim's proof: models of functions, walks, plain laws. No conditions. -/
import Derived.Test.YtakfmdiiehcbdaaPCa
namespace Go.Proofs.Ytakfmdiiehcbdaa
open Go Go.RowKit Sep
set_option linter.all false
theorem mulb {a b : Int} (ha : a.natAbs ≤ 1073741824) (hb : b.natAbs ≤ 1073741824) : (a * b).natAbs ≤ 1152921504606846976 := by
 rw [Int.natAbs_mul]
 exact Nat.mul_le_mul ha hb
theorem V_bd {x : R} (h : V x = true) : x.fN.natAbs ≤ 1073741824 ∧ x.fD.natAbs ≤ 1073741824 ∧ 1 ≤ x.fD := by
 simp only [V, decide_eq_true_eq] at h; omega
theorem D_ne {x y : R} (hx : V x = true) (hy : V y = true) : x.fD * y.fD ≠ 0 := Int.mul_ne_zero (by have := V_bd hx; omega) (by have := V_bd hy; omega)
theorem add_eq {x y : R} (hx : V x = true) (hy : V y = true) : m_rat_Add x y = some (mk (val x + val y)) := by
 have bx := V_bd hx; have b2 := V_bd hy
 have h1 := mulb bx.1 b2.2.1; have h2 := mulb b2.1 bx.2.1; have h3 := mulb bx.2.1 b2.2.1
 unfold m_rat_Add m_rat_doc m_rat_do_1
 rw [valid_eq, valid_eq, hx, hy]
 simp only [Option.bind_some, Bool.not_true, Bool.false_eq_true, if_false]
 rw [i64_id (x := x.fN * y.fD) (by omega), i64_id (x := y.fN * x.fD) (by omega), i64_id (by omega), i64_id (by omega), make_eq (D_ne hx hy) (by omega)]
 rw [val, val, Rat.divInt_add_divInt _ _ (by omega) (by omega)]
 rfl
theorem sub_eq {x y : R} (hx : V x = true) (hy : V y = true) : m_rat_Sub x y = some (mk (val x - val y)) := by
 have bx := V_bd hx; have b2 := V_bd hy
 have h1 := mulb bx.1 b2.2.1; have h2 := mulb b2.1 bx.2.1; have h3 := mulb bx.2.1 b2.2.1
 unfold m_rat_Sub m_rat_do m_rat_do_2
 rw [valid_eq, valid_eq, hx, hy]
 simp only [Option.bind_some, Bool.not_true, Bool.false_eq_true, if_false]
 rw [i64_id (x := x.fN * y.fD) (by omega), i64_id (x := y.fN * x.fD) (by omega), i64_id (by omega), i64_id (by omega), make_eq (D_ne hx hy) (by omega)]
 rw [val, val, Rat.divInt_sub_divInt _ _ (by omega) (by omega)]
 rfl
theorem mul_eq {x y : R} (hx : V x = true) (hy : V y = true) : m_rat_Mul x y = some (mk (val x * val y)) := by
 have bx := V_bd hx; have b2 := V_bd hy
 have h1 := mulb bx.1 b2.1; have h3 := mulb bx.2.1 b2.2.1
 unfold m_rat_Mul m_rat_dod m_rat_do_3
 rw [valid_eq, valid_eq, hx, hy]
 simp only [Option.bind_some, Bool.not_true, Bool.false_eq_true, if_false]
 rw [i64_id (by omega), i64_id (by omega), make_eq (D_ne hx hy) (by omega)]
 rw [val, val, Rat.divInt_mul_divInt]
 rfl
theorem div_eq {x y : R} (hx : V x = true) (hy : V y = true) (h0 : y.fN ≠ 0) : m_rat_Div x y = some (mk (val x / val y)) := by
 have bx := V_bd hx; have b2 := V_bd hy
 have h1 := mulb bx.1 b2.2.1; have h3 := mulb bx.2.1 b2.1
 unfold m_rat_Div m_rat_dob m_rat_do_4
 rw [valid_eq, valid_eq, hx, hy]
 simp only [Option.bind_some, Bool.not_true, Bool.false_or, decide_eq_true_eq, h0, if_false, Bool.false_eq_true]
 rw [i64_id (by omega), i64_id (by omega), make_eq (Int.mul_ne_zero (by omega) h0) (by omega)]
 rw [val, val, Rat.div_def, Rat.inv_divInt, Rat.divInt_mul_divInt]
 rfl
def cmpQ (p q : Rat) : Int := if p < q then -1 else if q < p then 1 else 0
theorem lt_val {x y : R} (hx : V x = true) (hy : V y = true) : val x < val y ↔ x.fN * y.fD < y.fN * x.fD := by
 rw [Rat.lt_iff, (V_num hx).1, (V_num hx).2, (V_num hy).1, (V_num hy).2]
theorem cmp_eq {x y : R} (hx : V x = true) (hy : V y = true) : m_rat_Cmp x y = some (cmpQ (val x) (val y)) := by
 have bx := V_bd hx; have b2 := V_bd hy
 have h1 := mulb bx.1 b2.2.1; have h2 := mulb b2.1 bx.2.1
 unfold m_rat_Cmp cmpQ
 rw [valid_eq, valid_eq, hx, hy]
 simp only [Option.bind_some, Bool.not_true, Bool.false_eq_true, if_false, decide_eq_true_eq]
 rw [i64_id (x := x.fN * y.fD) (by omega), i64_id (x := y.fN * x.fD) (by omega)]
 simp only [lt_val hx hy, lt_val hy hx]
 by_cases h : x.fN * y.fD < y.fN * x.fD
 ·simp [h]
 ·by_cases h' : y.fN * x.fD < x.fN * y.fD <;> simp [h, h']
theorem cmpQ_le {p q : Rat} : cmpQ p q ≤ 0 ↔ p ≤ q := by unfold cmpQ; grind
theorem cmpQ_lt {p q : Rat} : cmpQ p q < 0 ↔ p < q := by unfold cmpQ; grind
theorem cmpQ_gt {p q : Rat} : 0 < cmpQ p q ↔ q < p := by unfold cmpQ; grind
theorem lt_or_eq {p q : Rat} (h : p ≤ q) : p < q ∨ p = q := by grind
theorem cmpQ_self (p : Rat) : cmpQ p p = 0 := by unfold cmpQ; simp [Rat.lt_irrefl]
/-! ### buckets -/
abbrev B := z1
def GR (x : R) : Bool := V x && decide (0 ≤ x.fN)
def GB (b : B) : Bool := GR b.fBurst && GR b.fRate
def bq (b : B) : Rat := val b.fBurst
def rq (b : B) : Rat := val b.fRate
theorem GR_V {x : R} (h : GR x = true) : V x = true := by simp [GR] at h; exact h.1
theorem GR_pos {x : R} (h : GR x = true) : 0 ≤ val x := by
 have hv := GR_V h
 simp [GR] at h
 rw [← Rat.num_nonneg, (V_num hv).1]; exact h.2
theorem GR_of {q : Rat} (h0 : 0 ≤ q) (hf : fits q = true) : GR (ofQ q) = true := by
 simp only [GR, V_ofQ hf, Bool.true_and, decide_eq_true_eq]
 exact Rat.num_nonneg.2 h0
theorem GB_b {b : B} (h : GB b = true) : GR b.fBurst = true := by simp [GB] at h; exact h.1
theorem GB_r {b : B} (h : GB b = true) : GR b.fRate = true := by simp [GB] at h; exact h.2
theorem bucket_ext {a b : B} (ha : GB a = true) (hb : GB b = true) (h1 : bq a = bq b) (h2 : rq a = rq b) : a = b := by
 have e1 := val_inj (GR_V (GB_b ha)) (GR_V (GB_b hb)) h1
 have e2 := val_inj (GR_V (GB_r ha)) (GR_V (GB_r hb)) h2
 cases a; cases b; simp at e1 e2; rw [e1, e2]
theorem good_eq (x : R) : m_curve_good x = some (GR x) := by unfold m_curve_good GR; rw [valid_eq, Option.bind_some]
theorem valid1_eq (b : B) : m_curve_Valid_1 b = some (!GB b) := by
 unfold m_curve_Valid_1 GB
 rw [good_eq, good_eq]
 cases GR b.fBurst <;> simp
theorem containsF {s : List B} {f : B → Option Bool} {p : B → Bool} (hf : ∀ x ∈ s, f x = some (p x)) (hs : (s.length : Int) ≤ 4611686018427387000) : m_slices_ContainsFunc_api_Curve_api_Bucket s f = some (s.any p) :=
 contains_func (index_func (L := fun k => m_slices_IndexFunc_api_Curve_api_Bucket_L2 s f k) (fun _ _ _ => rfl) hf hs)
theorem contains_eq {s : List B} {v : B} (hs : (s.length : Int) ≤ 4611686018427387000) : m_slices_Contains_api_Curve_api_Bucket s v = some (s.any fun x => decide (v = x)) :=
 contains_func (index_func (L := fun k => m_slices_Index_api_Curve_api_Bucket_L2 s v k) (f := fun x => some (decide (v = x))) (fun _ _ _ => rfl) (fun _ _ => rfl) hs)
def VC (c : List B) : Bool := decide (1 ≤ c.length ∧ c.length ≤ 32) && c.all GB
theorem curve_valid (c : List B) : m_curve_Valid c = some (VC c) := by
 unfold m_curve_Valid VC
 by_cases h : 1 ≤ c.length ∧ c.length ≤ 32
 ·rw [if_pos (by simp; omega), containsF (p := fun b => !GB b) (fun x _ => valid1_eq x) (by omega)]
  simp only [Option.bind_some, h, and_self, decide_true, Bool.true_and]
  congr 1
  rw [List.all_eq_not_any_not]
 ·rw [if_neg (by simp; omega)]
  simp [h]
theorem VC_all {c : List B} (h : VC c = true) : ∀ b ∈ c, GB b = true := by simp [VC] at h; exact h.2
theorem VC_len {c : List B} (h : VC c = true) : 1 ≤ c.length ∧ c.length ≤ 32 := by simp [VC] at h; omega
def dom (a b : B) : Bool := decide (a ≠ b) && decide (bq a ≤ bq b) && decide (rq a ≤ rq b)
theorem dominates_eq {a b : B} (ha : GB a = true) (hb : GB b = true) : m_curve_dominates a b = some (dom a b) := by
 unfold m_curve_dominates dom
 rw [cmp_eq (GR_V (GB_b ha)) (GR_V (GB_b hb)), cmp_eq (GR_V (GB_r ha)) (GR_V (GB_r hb))]
 have e1 : decide (cmpQ (val a.fBurst) (val b.fBurst) ≤ 0) = decide (bq a ≤ bq b) := decide_eq_decide.2 cmpQ_le
 have e2 : decide (cmpQ (val a.fRate) (val b.fRate) ≤ 0) = decide (rq a ≤ rq b) := decide_eq_decide.2 cmpQ_le
 by_cases hab : a ≠ b
 ·rw [if_pos (by simpa using hab), Option.bind_some, Option.bind_some, e1]
  by_cases h1 : bq a ≤ bq b
  ·rw [if_pos (by simpa using h1), Option.bind_some, e2]; simp [hab, h1]
  ·rw [if_neg (by simpa using h1), Option.bind_some]; simp [h1]
 ·rw [if_neg (by simpa using hab)]; simp [hab]
/-! ### the normal form -/
def nsel (c : List B) (out : List B) (v : B) : List B := if (!(out.any fun x => decide (v = x)) && !(c.any fun a => dom a v)) = true then out ++ [v] else out
theorem norm_loop {c : List B} {k : List B → Option (List B)} (hc : ∀ b ∈ c, GB b = true) (hs : (c.length : Int) ≤ 1000000) :
  ∀ (n : Nat) (out : List B) (i : Int), 0 ≤ i → i ≤ c.length → c.length - i < n → (out.length : Int) ≤ i → m_curve_norm_L2 c k n out i = k ((c.drop i.toNat).foldl (nsel c) out) := by
 intro n
 induction n with
 | zero => intro out i h0 h1 h2; omega
 | succ n ih =>
  intro out i h0 h1 h2 h3
  rw [m_curve_norm_L2]
  by_cases h : i < c.length
  ·rw [if_pos (by simpa using h)]
   simp only [jp1]
   rw [chk_pos ⟨h0, h⟩, drop_cons h0 h, List.foldl_cons]
   have hm := hc _ (nth_mem h0 h)
   have e1 := contains_eq (s := out) (v := nth c i) (by omega)
   have e2 := containsF (s := c) (f := fun y0 => m_curve_norm_1 y0 (nth c i)) (p := fun a => dom a (nth c i)) (fun x hx => by unfold m_curve_norm_1; rw [dominates_eq (hc x hx) hm]; rfl) (by omega)
   refine (congrArg (fun o => Option.bind o _) e1).trans ?_
   rw [Option.bind_some]
   have hlen : (out.length : Int) + 1 ≤ 1000000 := by omega
   cases hA : out.any fun x => decide (nth c i = x) with
   | true =>
    simp only [Bool.not_true, Bool.false_eq_true, if_false, Option.bind_some]
    rw [i64_id (by omega), ih out (i + 1) (by omega) (by omega) (by omega) (by omega)]
    congr 2
    unfold nsel; simp [hA]
   | false =>
    simp only [Bool.not_false, if_true]
    refine (congrArg (fun o => Option.bind (Option.bind o _) _) e2).trans ?_
    simp only [Option.bind_some]
    cases hB : c.any fun a => dom a (nth c i) with
    | true =>
     simp only [Bool.not_true, Bool.false_eq_true, if_false]
     rw [i64_id (by omega), ih out (i + 1) (by omega) (by omega) (by omega) (by omega)]
     congr 2
     unfold nsel; simp [hA, hB]
    | false =>
     simp only [Bool.not_false, if_true]
     rw [chk_pos (by simp only [List.length_append, List.length_cons, List.length_nil]; omega), i64_id (by omega)]
     refine (ih _ (i + 1) (by omega) (by omega) (by omega) (by simp; omega)).trans ?_
     congr 2
     unfold nsel; simp [hA, hB]
  ·rw [if_neg (by simpa using h), drop_end h]; rfl
/-! sorting by a key -/
def sortK {α : Type} (key : α → Rat) (l : List α) : List α := sortBy (fun x y => some (cmpQ (key x) (key y))) l
theorem insBy_congr {α : Type} {p q : α → α → Option Int} {x : α} {l : List α} (h : ∀ y ∈ l, cby p x y = cby q x y) : insBy p x l = insBy q x l := by
 induction l with
 | nil => rfl
 | cons y l ih =>
  unfold insBy
  rw [h y (by simp), ih fun z hz => h z (by simp [hz])]
theorem sortBy_congr {α : Type} {p q : α → α → Option Int} {l : List α} (h : ∀ x ∈ l, ∀ y ∈ l, cby p x y = cby q x y) : sortBy p l = sortBy q l := by
 induction l with
 | nil => rfl
 | cons x l ih =>
  unfold sortBy
  rw [ih fun a ha b hb => h a (by simp [ha]) b (by simp [hb])]
  exact insBy_congr fun y hy => h x (by simp) y (by simp [(sortBy_perm q l).mem_iff.1 hy])
theorem insK_sorted {α : Type} {key : α → Rat} (x : α) (l : List α) (h : l.Pairwise fun a b => key a ≤ key b) : (insBy (fun x y => some (cmpQ (key x) (key y))) x l).Pairwise fun a b => key a ≤ key b := by
 induction l with
 | nil => simp [insBy]
 | cons y l ih =>
  obtain ⟨h1, h2⟩ := List.pairwise_cons.1 h
  unfold insBy
  split
  ·rename_i hxy
   have hxy : key x ≤ key y := cmpQ_le.1 hxy
   refine List.pairwise_cons.2 ⟨fun z hz => ?_, h⟩
   rcases List.mem_cons.1 hz with rfl | hz
   ·exact hxy
   ·exact Rat.le_trans hxy (h1 z hz)
  ·rename_i hxy
   have hxy : key y ≤ key x := Rat.le_of_lt (Rat.not_le.1 fun h => hxy (cmpQ_le.2 h))
   refine List.pairwise_cons.2 ⟨fun z hz => ?_, ih h2⟩
   rcases List.mem_cons.1 ((insBy_perm _ x l).mem_iff.1 hz) with rfl | hz
   ·exact hxy
   ·exact h1 z hz
theorem sortK_sorted {α : Type} (key : α → Rat) (l : List α) : (sortK key l).Pairwise fun a b => key a ≤ key b := by
 unfold sortK
 induction l with
 | nil => simp [sortBy]
 | cons x l ih => exact insK_sorted x _ ih
theorem sortK_perm {α : Type} (key : α → Rat) (l : List α) : (sortK key l).Perm l := sortBy_perm _ l
theorem ordB_key {α : Type} [DecidableEq α] {key : α → Rat} {p : α → α → Option Int} {l : List α} (hp : ∀ x ∈ l, ∀ y ∈ l, p x y = some (cmpQ (key x) (key y))) (hi : ∀ x ∈ l, ∀ y ∈ l, key x = key y → x = y) :
  sortBy p l = sortK key l ∧ ordB p (sortBy p l) = true := by
 have hc : ∀ x ∈ l, ∀ y ∈ l, cby p x y = cmpQ (key x) (key y) := fun x hx y hy => by unfold cby; rw [hp x hx y hy]; rfl
 have e : sortBy p l = sortK key l := sortBy_congr fun x hx y hy => by rw [hc x hx y hy]; rfl
 refine ⟨e, ?_⟩
 have hm : ∀ x ∈ sortBy p l, x ∈ l := fun x hx => (sortBy_perm p l).mem_iff.1 hx
 have hs := sortK_sorted key l
 rw [← e] at hs
 simp only [ordB, Bool.and_eq_true, List.all_eq_true, Bool.not_eq_true', decide_eq_false_iff_not, lstB_iff]
 refine ⟨fun x hx => ⟨fun y hy => by rw [hp x (hm x hx) y (hm y hy)]; rfl, by rw [hc x (hm x hx) x (hm x hx), cmpQ_self]; omega⟩, ?_⟩
 refine List.Pairwise.imp_of_mem ?_ hs
 intro x y hx hy hxy
 rw [hc x (hm x hx) y (hm y hy), hc y (hm y hy) x (hm x hx), cmpQ_lt, cmpQ_lt]
 rcases lt_or_eq hxy with h | h
 ·exact .inr ⟨h, Rat.not_lt.2 hxy⟩
 ·exact .inl (hi x (hm x hx) y (hm y hy) h)
theorem bitlen_lt (n : Nat) (h : n < 4611686018427387904) : Go.Lib.bitLen n ≤ 62 := Go.Lib.bitLen_le n 62 (by omega) (by omega)
theorem sortB_eq {l : List B} {p : B → B → Option Int} {key : B → Rat} (hp : ∀ x ∈ l, ∀ y ∈ l, p x y = some (cmpQ (key x) (key y))) (hi : ∀ x ∈ l, ∀ y ∈ l, key x = key y → x = y) (hs : (l.length : Int) ≤ 1000000) :
  m_slices_SortFunc_api_Curve_api_Bucket l p = some (sortK key l) := by
 obtain ⟨e, ho⟩ := ordB_key hp hi
 unfold m_slices_SortFunc_api_Curve_api_Bucket m_bits_Len m_slices_pdqsortCmpFunc_api_Bucket
 rw [u64_id (by omega), chk_pos (by omega), Option.bind_some]
 have hb := bitlen_lt l.length (by omega)
 rw [Int.toNat_natCast, chk_pos ⟨⟨rfl, rfl⟩, by omega, by omega, by omega⟩, chk_pos ho, Option.bind_some, e]
theorem sortR_eq {l : List R} {p : R → R → Option Int} {key : R → Rat} (hp : ∀ x ∈ l, ∀ y ∈ l, p x y = some (cmpQ (key x) (key y))) (hi : ∀ x ∈ l, ∀ y ∈ l, key x = key y → x = y) (hs : (l.length : Int) ≤ 1000000) :
  m_slices_SortFunc_api_Rat_api_Rat l p = some (sortK key l) := by
 obtain ⟨e, ho⟩ := ordB_key hp hi
 unfold m_slices_SortFunc_api_Rat_api_Rat m_bits_Len m_slices_pdqsortCmpFunc_api_Rat
 rw [u64_id (by omega), chk_pos (by omega), Option.bind_some]
 have hb := bitlen_lt l.length (by omega)
 rw [Int.toNat_natCast, chk_pos ⟨⟨rfl, rfl⟩, by omega, by omega, by omega⟩, chk_pos ho, Option.bind_some, e]
theorem nsel_mem {c : List B} : ∀ (l out : List B) (v : B), v ∈ l.foldl (nsel c) out ↔ v ∈ out ∨ (v ∈ l ∧ (c.any fun a => dom a v) = false)
 | [], out, v => by simp
 | x :: l, out, v => by
  rw [List.foldl_cons, nsel_mem l]
  unfold nsel
  by_cases h1 : (out.any fun y => decide (x = y)) = true
  ·have hx : x ∈ out := by simpa using h1
   rw [if_neg (by simp [h1])]
   constructor
   ·rintro (h | h)
    ·exact .inl h
    ·exact .inr ⟨by simp [h.1], h.2⟩
   ·rintro (h | ⟨h, h'⟩)
    ·exact .inl h
    ·rcases List.mem_cons.1 h with rfl | h
     ·exact .inl hx
     ·exact .inr ⟨h, h'⟩
  ·by_cases h2 : (c.any fun a => dom a x) = true
   ·rw [if_neg (by simp [h2])]
    constructor
    ·rintro (h | h)
     ·exact .inl h
     ·exact .inr ⟨by simp [h.1], h.2⟩
    ·rintro (h | ⟨h, h'⟩)
     ·exact .inl h
     ·rcases List.mem_cons.1 h with rfl | h
      ·rw [h2] at h'; cases h'
      ·exact .inr ⟨h, h'⟩
   ·rw [if_pos (by simp [h1, h2])]
    simp only [List.mem_append, List.mem_singleton]
    constructor
    ·rintro ((h | rfl) | h)
     ·exact .inl h
     ·exact .inr ⟨by simp, by simpa using h2⟩
     ·exact .inr ⟨by simp [h.1], h.2⟩
    ·rintro (h | ⟨h, h'⟩)
     ·exact .inl (.inl h)
     ·rcases List.mem_cons.1 h with rfl | h
      ·exact .inl (.inr rfl)
      ·exact .inr ⟨h, h'⟩
theorem nsel_nodup {c : List B} : ∀ (l out : List B), out.Nodup → (l.foldl (nsel c) out).Nodup
 | [], out, h => h
 | x :: l, out, h => by
  rw [List.foldl_cons]
  apply nsel_nodup l
  unfold nsel
  split
  ·rename_i h1
   simp only [Bool.and_eq_true, Bool.not_eq_true'] at h1
   have hx : x ∉ out := by have := h1.1; simp at this; exact fun hm => this x hm rfl
   rw [List.nodup_append]
   refine ⟨h, by simp, fun a ha b hb => ?_⟩
   simp at hb; subst hb
   intro e; subst e; exact hx ha
  ·exact h
theorem nsel_len {c : List B} : ∀ (l out : List B), (l.foldl (nsel c) out).length ≤ out.length + l.length
 | [], out => by simp
 | x :: l, out => by
  rw [List.foldl_cons]
  have := nsel_len (c := c) l (nsel c out x)
  have h : (nsel c out x).length ≤ out.length + 1 := by unfold nsel; split <;> simp
  simp; omega
def nrm0 (c : List B) : List B := c.foldl (nsel c) []
def NORM (c : List B) : List B := sortK bq (nrm0 c)
theorem nrm0_mem {c : List B} {v : B} : v ∈ nrm0 c ↔ v ∈ c ∧ ∀ a ∈ c, dom a v = false := by
 unfold nrm0; rw [nsel_mem]; simp
theorem NORM_mem {c : List B} {v : B} : v ∈ NORM c ↔ v ∈ c ∧ ∀ a ∈ c, dom a v = false := by
 unfold NORM; rw [(sortK_perm _ _).mem_iff, nrm0_mem]
theorem NORM_len (c : List B) : (NORM c).length ≤ c.length := by
 unfold NORM; rw [(sortK_perm _ _).length_eq]
 have := nsel_len (c := c) c []
 simpa [nrm0] using this
theorem nd_inj {c : List B} {x y : B} (hx : x ∈ c ∧ ∀ a ∈ c, dom a x = false) (hy : y ∈ c ∧ ∀ a ∈ c, dom a y = false) (h : bq x = bq y) : x = y := by
 have h1 := hx.2 y hy.1
 have h2 := hy.2 x hx.1
 by_cases e : x = y
 ·exact e
 ·exfalso
  have e' : y ≠ x := fun h => e h.symm
  unfold dom at h1 h2
  rw [h] at h1 h2
  simp [e, e', Rat.le_refl] at h1 h2
  grind
theorem norm_eq {c : List B} (hc : ∀ b ∈ c, GB b = true) (hs : (c.length : Int) ≤ 1000000) : m_curve_norm c = some (NORM c) := by
 unfold m_curve_norm
 simp only [jp1]
 rw [norm_loop hc hs FUEL [] 0 (by omega) (by omega) (by rw [FUEL_eq]; omega) (by simp)]
 show Option.bind (m_slices_SortFunc_api_Curve_api_Bucket (nrm0 c) _) _ = _
 have hl : (nrm0 c).length ≤ c.length := by have := nsel_len (c := c) c []; simpa [nrm0] using this
 rw [sortB_eq (key := bq) (fun x hx y hy => ?_) (fun x hx y hy h => nd_inj (nrm0_mem.1 hx) (nrm0_mem.1 hy) h) (by omega)]
 ·rfl
 ·unfold m_curve_norm_2
  rw [cmp_eq (GR_V (GB_b (hc x (nrm0_mem.1 hx).1))) (GR_V (GB_b (hc y (nrm0_mem.1 hy).1)))]; rfl
theorem NORM_sorted {c : List B} : (NORM c).Pairwise fun x y => bq x < bq y ∧ rq y < rq x := by
 have h := sortK_sorted bq (nrm0 c)
 have hn : (NORM c).Nodup := (sortK_perm bq (nrm0 c)).nodup_iff.2 (nsel_nodup c [] (by simp))
 have h2 := List.Pairwise.and h hn
 refine List.Pairwise.imp_of_mem ?_ h2
 intro x y hx hy hxy
 have hx := NORM_mem.1 hx; have hy := NORM_mem.1 hy
 have hlt : bq x < bq y := by
  rcases lt_or_eq hxy.1 with h | h
  ·exact h
  ·exact absurd (nd_inj hx hy h) hxy.2
 refine ⟨hlt, ?_⟩
 have := hy.2 x hx.1
 unfold dom at this
 simp [hxy.2, hxy.1] at this
 grind
end Go.Proofs.Ytakfmdiiehcbdaa
